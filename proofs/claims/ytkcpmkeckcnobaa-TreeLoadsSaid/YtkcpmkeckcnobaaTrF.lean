/- Own lemmas of several kinds, put together: Tr11, Tr12, Tr13, Tr14, Tr15, Tr16. -/
import Derived.Test.YtkcpmkeckcnobaaTrE
import Derived.Test.YtkcpmkeckcnobaaKitF
/- tree.join of any two neighbours; which part is little; (*inner).mend, in plain words. -/
namespace Go.Proofs.Ytkcpmkeckcnobaa
open Go.RowKit

theorem join_any {w : World} {d : Nat} {v1 v2 : Value} {L1 L2 : List (List Nat)} {k1 k2 : Nat} {F1 F2 κ : List Nat} (h1 : TreeAt w d v1 L1 k1 F1) (h2 : TreeAt w d v2 L2 k2 F2) (hnd : ∀ g ∈ F1, g ∉ F2) (hs : Srt (L1 ++ L2)) (hn : k1 + k2 ≤ 549755813888) (hκ : κ.length = 40) (hκz : ∀ z ∈ κ, z < 256) (ha : Ahead L1 κ) (hb : ∀ r ∈ L2, ¬ klt (keyOf r) κ) :
    Calls Try.prog 99 #[v1, v2, .agg (bv κ).toArray] w (JoinP w d v1 (L1 ++ L2) (k1 + k2) F1 F2) := by
  cases d with
  | zero =>
    obtain ⟨b1, A1, c1, h1⟩ := h1
    obtain ⟨b2, A2, c2, h2⟩ := h2
    exact join_leaf h1 h2 hnd hs hn hκ
  | succ d =>
    obtain ⟨b1, ks1, ts1, K1, kc1, C1, cc1, h1, rfl, rfl, rfl, hb1⟩ := h1
    obtain ⟨b2, ks2, ts2, K2, kc2, C2, cc2, h2, rfl, rfl, rfl, hb2⟩ := h2
    exact join_inner h1 h2 hb1 hb2 hnd hs hn hκ hκz ha hb
section
variable {w : World} {b n c : Nat} {A : Option Addr} {C : Value}
set_option maxRecDepth 100000 in
theorem little_leaf (hb : Blk w b 111 #[.slice A n c]) : Calls Try.prog 78 #[.pointer (some ⟨b, 0, none⟩)] w fun r w' => r = .returned (.bool (decide (n < 6))) ∧ Mod Nn w w' := by
  have hc0 : w.cell? ⟨b, 0, none⟩ = some (.slice A n c) := hb.cell 0
  go_enter Try.func78, Try.ntmps78
  go_wp2
  go_ret
  exact ⟨show Ending.returned (.bool (decide ((n : Int) < 6))) = .returned (.bool (decide (n < 6))) from by rw [show decide ((n : Int) < 6) = decide (n < 6) from decide_eq_decide.2 (by omega)], Mod.refl _ _⟩
set_option maxRecDepth 100000 in
theorem little_inner {kc : Nat} {K : Value} (hb : Blk w b 106 #[K, .slice A n c]) : Calls Try.prog 82 #[.pointer (some ⟨b, 0, none⟩)] w fun r w' => r = .returned (.bool (decide (n < 10))) ∧ Mod Nn w w' := by
  have hc0 : w.cell? ⟨b, 1, none⟩ = some (.slice A n c) := hb.cell 1
  go_enter Try.func82, Try.ntmps82
  go_wp2
  go_ret
  exact ⟨show Ending.returned (.bool (decide ((n : Int) < 10))) = .returned (.bool (decide (n < 10))) from by rw [show decide ((n : Int) < 10) = decide (n < 10) from decide_eq_decide.2 (by omega)], Mod.refl _ _⟩
end
/-! ## a kid mended, in plain words -/
section
variable {ks : List (List Nat)} {X Y : List Kid} {t u1 u2 u : Kid}
theorem mend_split (h : 2 ≤ (X ++ t :: Y).length) : ∃ X0 u1 u2 Y0, X ++ t :: Y = X0 ++ u1 :: u2 :: Y0 ∧ X0.length = X.length - 1 ∧ (∀ u ∈ X0 ++ Y0, u ∈ X ++ Y) ∧ ((u1 = t ∧ u2 ∈ X ++ Y) ∨ (u2 = t ∧ u1 ∈ X ++ Y)) := by
  cases hX : X.reverse with
  | nil =>
    have : X = [] := by simpa using hX
    subst this
    cases Y with
    | nil => simp at h
    | cons u2 Y => exact ⟨[], t, u2, Y, rfl, rfl, fun u hu => by simp at hu ⊢; exact .inr hu, .inl ⟨rfl, by simp⟩⟩
  | cons u1 Z =>
    have : X = Z.reverse ++ [u1] := by rw [← List.reverse_reverse X, hX, List.reverse_cons]
    subst this
    refine ⟨Z.reverse, u1, t, Y, by simp, by simp, fun u hu => ?_, .inr ⟨rfl, by simp⟩⟩
    simp at hu ⊢
    exact hu.elim .inl (fun h => .inr (.inr h))
theorem mend_ents (hu : u.L = u1.L ++ u2.L) : entsOf (X ++ u :: Y) = entsOf (X ++ u1 :: u2 :: Y) := by
  rw [entsOf_append, entsOf_append, entsOf_cons, entsOf_cons, entsOf_cons, hu, List.append_assoc]
theorem mend_sep (hs : Sep ks (X ++ u1 :: u2 :: Y)) (hx : X.length < ks.length) (hu : u.L = u1.L ++ u2.L) : Sep (ks.take X.length ++ ks.drop (X.length + 1)) (X ++ u :: Y) := by
  intro j y hj
  have htl : (ks.take X.length).length = X.length := by rw [List.length_take]; omega
  by_cases hjx : j < X.length
  · rw [List.getElem?_append_left (by omega), List.getElem?_take_of_lt hjx] at hj
    obtain ⟨s1, s2⟩ := hs j y hj
    rw [List.take_append_of_le_length (by omega)] at s1 ⊢
    rw [List.drop_append_of_le_length (by omega)] at s2 ⊢
    exact ⟨s1, fun r hr => s2 r (by rw [← mend_ents hu]; exact hr)⟩
  · obtain ⟨m, rfl⟩ : ∃ m, j = X.length + m := ⟨j - X.length, by omega⟩
    rw [List.getElem?_append_right (by omega), htl, Nat.add_sub_cancel_left, List.getElem?_drop] at hj
    obtain ⟨s1, s2⟩ := hs (X.length + 1 + m) y hj
    rw [List.take_append, List.take_of_length_le (by omega), show X.length + 1 + m + 1 - X.length = m + 2 from by omega, List.take_succ_cons, List.take_succ_cons] at s1
    rw [List.drop_append, List.drop_of_length_le (by omega), show X.length + 1 + m + 1 - X.length = m + 2 from by omega, List.drop_succ_cons, List.drop_succ_cons, List.nil_append] at s2
    rw [List.take_append, List.take_of_length_le (by omega), List.drop_append, List.drop_of_length_le (by omega), show X.length + m + 1 - X.length = m + 1 from by omega, List.take_succ_cons, List.drop_succ_cons, List.nil_append]
    refine ⟨fun r hr => s1 r ?_, s2⟩
    rw [mend_ents hu] at hr
    exact hr
end
end Go.Proofs.Ytkcpmkeckcnobaa

/- (*inner).mend. -/
namespace Go.Proofs.Ytkcpmkeckcnobaa
open Go.RowKit

theorem finds_leaf (rv : Value) (w : World) : (method (Try.prog.types.size + Made.depth) 109 rv "peatbank/tree.little").run Try.prog w = .ok (78, rv) w := by kernel_rfl
theorem finds_inner (rv : Value) (w : World) : (method (Try.prog.types.size + Made.depth) 103 rv "peatbank/tree.little").run Try.prog w = .ok (82, rv) w := by kernel_rfl
theorem wpList_little {w : World} {o : Oper} {a : Act} {ops : Array Oper} {rest : List Oper} {Q : Exit → Act → World → Prop} {x : Operand} {d : Nat} {v : Value} {L : List (List Nat)} {k : Nat} {F : List Nat} (ht : TreeAt w d v L k F)
    (hg : Region.wanted o (yielded ops a.tmps) = true) (ho : o.op = .call { callee := .invoke x "peatbank/tree.little", args := #[], argTypes := #[] }) (hx : a.eval x = v)
    (h : ∀ w1, Mod Nn w w1 → wpList Try.prog ops Q rest (a.put o.dst (.bool (decide (k < loB d)))) w1) : wpList Try.prog ops Q (o :: rest) a w := by
  cases d with
  | zero =>
    obtain ⟨b, A, c, hl⟩ := ht
    refine wpList_enters (R := fun u w1 => u = .bool (decide (k < loB 0)) ∧ Mod Nn w w1) hg (exec_invoke ho (hx.trans hl.ve) (finds_leaf _ _) Try.func78 rfl rfl) ((little_leaf hl.blk).mono fun e w1 ⟨he, hm⟩ => ⟨_, he, by rw [hl.ke]; rfl, hm⟩) (fun u w1 ⟨hu, hm⟩ => by subst hu; exact h w1 hm)
  | succ d =>
    obtain ⟨b, ks, ts, K, kc, C, cc, hl, hv, -, rfl, -⟩ := ht
    refine wpList_enters (R := fun u w1 => u = .bool (decide (ts.length < loB (d + 1))) ∧ Mod Nn w w1) hg (exec_invoke ho (hx.trans hv) (finds_inner _ _) Try.func82 rfl rfl) ((little_inner (kc := 0) hl.blk).mono fun e w1 ⟨he, hm⟩ => ⟨_, he, rfl, hm⟩) (fun u w1 ⟨hu, hm⟩ => by subst hu; exact h w1 hm)
section
variable {w : World} {ks : List (List Nat)} {X Y : List Kid} {t : Kid} {d b kc cc : Nat} {F : List Nat} {K C : Option Addr}
/-- what mend brings about -/
def MendP (w : World) (d b : Nat) (L : List (List Nat)) (k : Nat) (F : List Nat) (tk : Nat) (r : Ending) (w' : World) : Prop :=
  r = .returned (.tuple #[]) ∧ ∃ ks' ts' F' K' kc' C' cc', InnerAt (TreeAt w' d) w' b ks' ts' F' K' kc' C' cc' ∧ entsOf ts' = L ∧ (∀ u ∈ ts', loB d ≤ u.k ∧ u.k ≤ hiB d) ∧
      k ≤ ts'.length + 1 ∧ ts'.length ≤ k ∧ (∀ g ∈ F', g ∈ F ∨ w.heap.size ≤ g) ∧ Mod (· ∈ F) w w' ∧ (loB d ≤ tk → ts'.length = k)
set_option maxRecDepth 100000 in
set_option maxHeartbeats 6400000 in
theorem mend_big (h : InnerAt (TreeAt w d) w b ks (X ++ t :: Y) F K kc C cc) (hbd : ∀ u ∈ X ++ Y, loB d ≤ u.k ∧ u.k ≤ hiB d) (hlo : loB d ≤ t.k) (hhi : t.k ≤ hiB d) :
    Calls Try.prog 70 #[.pointer (some ⟨b, 0, none⟩), .int .i64 X.length] w (MendP w d b (entsOf (X ++ t :: Y)) (X ++ t :: Y).length F t.k) := by
  obtain ⟨gC, rfl, hct⟩ := kid_cell h
  have htt := h.kids t (by simp)
  have hc1 : w.cell? ⟨b, 1, none⟩ = some (.slice (some ⟨gC, 0, none⟩) (X ++ t :: Y).length cc) := h.blk.cell 1
  have hpN : X.length < (X ++ t :: Y).length := by simp
  have hct0 := hct w (Mod.refl _ _)
  have hlo' := hlo
  have HB := Lib.hid (And.intro h (And.intro hbd (And.intro hlo (And.intro hhi htt))))
  clear h hbd hlo hhi htt hct
  obtain ⟨p, hp⟩ : ∃ p, X.length = p := ⟨_, rfl⟩
  obtain ⟨N, hN⟩ : ∃ N, (X ++ t :: Y).length = N := ⟨_, rfl⟩
  rw [hp] at hpN hct0 ⊢
  rw [hN] at hc1 hpN ⊢
  go_enter Try.func70, Try.ntmps70
  go_wp2_with (first
    | (with_reducible change wpList _ _ _ (⟨some 9, _, _, _, _, _⟩ :: _) _ _
       go_must (refine wpList_val rfl (exec_elem (P := Try.prog) (g := gC) (off := 0) (q := p) 104 (.tmp 7) (.tmp 8) rfl 37 1 uuP sizeP rfl rfl hpN) ?_)
       rw [Nat.zero_add, Nat.mul_one])
    | (with_reducible change wpList _ _ _ (⟨some 10, _, _, _, _, _⟩ :: _) _ _
       go_must (refine wpList_val rfl (exec_load1 (P := Try.prog) (ad := ⟨gC, p, none⟩) 37 (.tmp 9) rfl rfl hct0 Try.underlying37 rfl) ?_))
    | (with_reducible change wpList _ _ _ (⟨some 11, _, _, _, _, _⟩ :: _) _ _
       go_must (refine wpList_little HB.out.2.2.2.2 rfl rfl rfl ?_)
       rw [decide_eq_false (show ¬ t.k < loB d by omega)]
       intro w1 m1
       have H1 := Lib.hid m1
       clear m1))
  go_end0
  refine ⟨rfl, ks, X ++ t :: Y, F, K, kc, some ⟨gC, 0, none⟩, cc, HB.out.1.mod H1.out (fun _ _ f => f) (fun u hu hq => hq.nn H1.out), rfl, fun u hu => ?_, by omega, by omega, fun g hg => .inl hg, H1.out.nn, fun _ => by omega⟩
  rcases List.mem_append.1 hu with hu | hu
  · exact HB.out.2.1 u (List.mem_append_left _ hu)
  · rcases List.mem_cons.1 hu with rfl | hu
    · exact ⟨HB.out.2.2.1, HB.out.2.2.2.1⟩
    · exact HB.out.2.1 u (List.mem_append_right _ hu)
end
end Go.Proofs.Ytkcpmkeckcnobaa

/- (*inner).mend of a little kid. -/
namespace Go.Proofs.Ytkcpmkeckcnobaa
open Go.RowKit

theorem exec_max0 {P : Program} {w : World} {o : Oper} {a : Act} {x : Operand} {ts : Array TypeId} (ho : o.op = .call { callee := .builtin .max, args := #[x, .const (.int .i64 0)], argTypes := ts }) {n : Int} {m : Nat} (hx : a.eval x = .int .i64 n) (hm : (m : Int) = if 0 > n then 0 else n) :
    (execOp a.eval o).run P w = .ok (.value (.int .i64 m)) w := by
  have hr := run_max_int2 (P := P) (w := w) ts o.type .i64 .i64 n 0
  rw [← hm] at hr
  have h0 : a.eval (.const (.int .i64 0)) = .int .i64 0 := rfl
  simp [execOp, ho, resolve, invoke, builtin, hx, h0, hr, Result.andThen]
section
variable {w : World} {ks : List (List Nat)} {X Y : List Kid} {t : Kid} {d b kc cc : Nat} {F : List Nat} {K C : Option Addr}
set_option maxRecDepth 100000 in
set_option maxHeartbeats 6400000 in
theorem mend_little (h : InnerAt (TreeAt w d) w b ks (X ++ t :: Y) F K kc C cc) (hbd : ∀ u ∈ X ++ Y, loB d ≤ u.k ∧ u.k ≤ hiB d) (hlo : loB d ≤ t.k + 1) (hhi : t.k < loB d) (h2 : 2 ≤ (X ++ t :: Y).length) (hn : (X ++ t :: Y).length ≤ 274877906944) :
    Calls Try.prog 70 #[.pointer (some ⟨b, 0, none⟩), .int .i64 X.length] w (MendP w d b (entsOf (X ++ t :: Y)) (X ++ t :: Y).length F t.k) := by
  obtain ⟨gC, rfl, hct⟩ := kid_cell h
  obtain ⟨X0, u1, u2, Y0, hts, hX0, hsub, hcase⟩ := mend_split h2
  have htt := h.kids t (by simp)
  have hc1 : w.cell? ⟨b, 1, none⟩ = some (.slice (some ⟨gC, 0, none⟩) (X ++ t :: Y).length cc) := h.blk.cell 1
  have hpN : X.length < (X ++ t :: Y).length := by simp
  have hct0 := hct w (Mod.refl _ _)
  have hlen := h.len
  have hkle := h.krow.le
  have hsum : loB d ≤ u1.k + u2.k ∧ u1.k + u2.k ≤ 2 * hiB d := by
    have hlh : loB d ≤ hiB d := by cases d <;> simp [loB, hiB]
    have hl1 : 1 ≤ loB d := by cases d <;> simp [loB]
    rcases hcase with ⟨rfl, hm⟩ | ⟨rfl, hm⟩
    · have := hbd u2 hm; omega
    · have := hbd u1 hm; omega
  have hbd0 : ∀ u ∈ X0 ++ Y0, loB d ≤ u.k ∧ u.k ≤ hiB d := fun u hu => hbd u (hsub u hu)
  have h0 := h
  rw [hts] at h0
  obtain ⟨g', hg', hu1⟩ := kid_cell h0
  injection hg' with hg'; injection hg' with hg'; subst hg'
  obtain ⟨g', hg', hu2⟩ := kid_cell (X := X0 ++ [u1]) (t := u2) (Y := Y0) (by simpa using h0)
  injection hg' with hg'; injection hg' with hg'; subst hg'
  obtain ⟨p, hp⟩ : ∃ p, X.length = p := ⟨_, rfl⟩
  obtain ⟨q, hq⟩ : ∃ q, X0.length = q := ⟨_, rfl⟩
  obtain ⟨N, hN⟩ : ∃ N, (X ++ t :: Y).length = N := ⟨_, rfl⟩
  have hpq : q + 1 = p ∨ (p = 0 ∧ q = 0) := by omega
  have hqN : q + 1 < N := by rw [← hN, hts, ← hq]; simp
  have hw1 : IntKind.i64.wrap ((q : Int) + 1) = (q : Int) + 1 := by rw [IntKind.wrap_i64]; omega
  have hw2 : IntKind.i64.wrap ((q : Int) + 2) = (q : Int) + 2 := by rw [IntKind.wrap_i64]; omega
  rw [hN] at hlen
  obtain ⟨κ, hκ⟩ : ∃ κ, ks[q]? = some κ := ⟨_, List.getElem?_eq_getElem (by omega)⟩
  have hκ40 := h.krows κ (List.mem_of_getElem? hκ)
  obtain ⟨gK, rfl⟩ := h.krow.of_ (by omega)
  have hcell : ∀ w', Mod Nn w w' → ∀ j v, (bv κ)[j]? = some v → w'.cell? ⟨gK, q * 40 + j, none⟩ = some v := fun w' hm j v hv => by
    obtain ⟨g, off, e, hc⟩ := row_cells ((h.krow.nn hm).rd) h.krows hκ rfl (by omega)
    injection e with e; injection e with e1 e2 _; subst e1; subst e2
    rw [← Nat.zero_add (q * 40)]
    exact hc j v hv
  rw [hq] at hu1
  rw [List.length_append, hq] at hu2
  have hblk := h.blk
  rw [hN] at hblk
  have HB := Lib.hid (And.intro h0 (And.intro hbd0 (And.intro hsum (And.intro htt (And.intro hblk (And.intro hu1 (And.intro hu2 (And.intro hκ (And.intro hκ40 (And.intro hcell (And.intro hts hq)))))))))))
  clear h h0 hbd hbd0 hlo htt hct hblk hu1 hu2 hκ hκ40 hcell hsub hcase hX0 hsum
  rw [hp] at hpN hct0 ⊢
  rw [hN] at hc1 hpN h2 hn ⊢
  go_enter Try.func70, Try.ntmps70
  go_wp2_with (first
    | (with_reducible change wpList _ _ _ (⟨some 9, _, _, _, _, _⟩ :: _) _ _
       go_must (refine wpList_val rfl (exec_elem (P := Try.prog) (g := gC) (off := 0) (q := p) 104 (.tmp 7) (.tmp 8) rfl 37 1 uuP sizeP rfl rfl hpN) ?_)
       rw [Nat.zero_add, Nat.mul_one])
    | (with_reducible change wpList _ _ _ (⟨some 10, _, _, _, _, _⟩ :: _) _ _
       go_must (refine wpList_val rfl (exec_load1 (P := Try.prog) (ad := ⟨gC, p, none⟩) 37 (.tmp 9) rfl rfl hct0 Try.underlying37 rfl) ?_))
    | (with_reducible change wpList _ _ _ (⟨some 11, _, _, _, _, _⟩ :: _) _ _
       go_must (refine wpList_little HB.out.2.2.2.1 rfl rfl rfl ?_)
       rw [decide_eq_true hhi]
       intro w1 m1
       have hcN : w1.cell? ⟨b, 1, none⟩ = some (.slice (some ⟨gC, 0, none⟩) N cc) := (HB.out.2.2.2.2.1.mod m1 (fun f => f)).cell 1
       have H1 := Lib.hid m1
       clear m1)
    | (with_reducible change wpList _ _ _ (⟨some 23, _, _, _, _, _⟩ :: _) _ _
       go_must (refine wpList_val rfl (exec_max0 (P := Try.prog) (m := q) rfl rfl (by split <;> omega)) ?_)))
  -- zzA
  have hB1 := HB.out.2.2.2.2.1.mod H1.out (fun f => f)
  have hI1 := HB.out.1.mod (S := Nn) (w' := w1) (Q' := TreeAt w1 d) H1.out (fun _ _ f => f) (fun u _ hq => hq.nn H1.out)
  have HS := Lib.hid (And.intro hB1 hI1)
  clear hB1 hI1 hcN
  refine wp_region_planT (fun w' => Mod Nn w1 w') 22 [(0, 0), (1, 0), (2, 0), (3, 1), (4, 0), (5, 0), (6, 1), (7, 0), (8, 0), (9, 0), (10, 1), (11, 0), (12, 0), (13, 0), (14, 1), (15, 0), (16, 0), (17, 0), (18, 1), (19, 0), (20, 0), (21, 1), (22, 2)] (by kernel_rfl) (by kernel_rfl) (Mod.refl Nn w1).drew ?_
  iterate 3 (refine pt_pure rfl rfl (fun K hK => ?_); go_simp; refine hK _ ?_; clear hK K)
  refine pt_take (.slice (some ⟨gC, 0, none⟩) N cc) rfl rfl (fun w' hS => exec_load1 (P := Try.prog) 104 (.tmp 26) rfl rfl ((HS.out.1.mod hS (fun f => f)).cell 1) Try.underlying104 rfl) (fun K hK => ?_); go_simp; refine hK _ ?_; clear hK K
  iterate 1 (refine pt_pure rfl rfl (fun K hK => ?_); go_simp; refine hK _ ?_; clear hK K)
  refine pt_is (.pointer (some ⟨gC, 0 + q * 1, none⟩)) rfl rfl (fun w' => exec_elem (P := Try.prog) (g := gC) (off := 0) (q := q) 104 (.tmp 27) (.tmp 28) rfl 37 1 uuP sizeP rfl rfl (by omega)) (fun K hK => ?_); go_simp; refine hK _ ?_; clear hK K
  refine pt_take u1.v rfl rfl (fun w' hS => exec_load1 (P := Try.prog) (ad := ⟨gC, q, none⟩) 37 (.tmp 29) rfl rfl (HB.out.2.2.2.2.2.1 w' (H1.out.nn_ hS)) Try.underlying37 rfl) (fun K hK => ?_); go_simp; refine hK _ ?_; clear hK K
  iterate 3 (refine pt_pure rfl rfl (fun K hK => ?_); go_simp; refine hK _ ?_; clear hK K)
  refine pt_take (.slice (some ⟨gC, 0, none⟩) N cc) rfl rfl (fun w' hS => exec_load1 (P := Try.prog) 104 (.tmp 33) rfl rfl ((HS.out.1.mod hS (fun f => f)).cell 1) Try.underlying104 rfl) (fun K hK => ?_); go_simp; refine hK _ ?_; clear hK K
  iterate 2 (refine pt_pure rfl rfl (fun K hK => ?_); go_simp; refine hK _ ?_; clear hK K)
  refine pt_is (.pointer (some ⟨gC, 0 + (q + 1) * 1, none⟩)) rfl rfl (fun w' => exec_elem (P := Try.prog) (g := gC) (off := 0) (q := q + 1) 104 (.tmp 34) (.tmp 36) rfl 37 1 uuP sizeP rfl rfl hqN) (fun K hK => ?_); go_simp; refine hK _ ?_; clear hK K
  refine pt_take u2.v rfl rfl (fun w' hS => exec_load1 (P := Try.prog) (ad := ⟨gC, q + 1, none⟩) 37 (.tmp 37) rfl rfl (HB.out.2.2.2.2.2.2.1 w' (H1.out.nn_ hS)) Try.underlying37 rfl) (fun K hK => ?_); go_simp; refine hK _ ?_; clear hK K
  iterate 3 (refine pt_pure rfl rfl (fun K hK => ?_); go_simp; refine hK _ ?_; clear hK K)
  refine pt_take (.slice (some ⟨gK, 0, none⟩) ks.length kc) rfl rfl (fun w' hS => exec_load1 (P := Try.prog) 75 (.tmp 41) rfl rfl ((HS.out.1.mod hS (fun f => f)).cell 0) Try.underlying75 rfl) (fun K hK => ?_); go_simp; refine hK _ ?_; clear hK K
  iterate 1 (refine pt_pure rfl rfl (fun K hK => ?_); go_simp; refine hK _ ?_; clear hK K)
  refine pt_is (.pointer (some ⟨gK, 0 + q * 40, none⟩)) rfl rfl (fun w' => exec_elem (P := Try.prog) (g := gK) (off := 0) (q := q) 75 (.tmp 42) (.tmp 43) rfl 23 40 uuK sizeK rfl rfl (by omega)) (fun K hK => ?_); go_simp; refine hK _ ?_; clear hK K
  refine pt_take (.agg (bv κ).toArray) rfl rfl (fun w' hS => exec_load_cells (P := Try.prog) (b := gK) (off := q * 40) (cs := bv κ) 23 (.tmp 44) rfl rfl (HB.out.2.2.2.2.2.2.2.2.2.1 w' (H1.out.nn_ hS)) Try.underlying23 rfl (by rw [bv_len, HB.out.2.2.2.2.2.2.2.2.1.1]; exact size_keyT)) (fun K hK => ?_); go_simp; refine hK _ ?_; clear hK K
  refine pt_call rfl rfl (fun K hK => ?_); go_simp; refine ⟨_, _, ⟨rfl, rfl⟩, hK _ _ _ ?_⟩; clear hK K
  have hI := HB.out.1
  have ap := hI.ap
  have hq0 : X0.length = q := HB.out.2.2.2.2.2.2.2.2.2.2.2
  have hbig : hiB d ≤ 20 ∧ 12 ≤ hiB d := by cases d <;> simp [hiB]
  have hft : foot (X0 ++ u1 :: u2 :: Y0) = foot (X0 ++ (⟨u1.v, u1.L ++ u2.L, 0, u1.F ++ u2.F⟩ : Kid) :: Y0) := by
    rw [foot_append, foot_append, foot_cons, foot_cons, foot_cons, List.append_assoc]
  have hfn := ap.f
  rw [hft] at hfn
  have hu12 : (u1.F ++ u2.F).Nodup := by
    rw [foot_append, foot_cons] at hfn
    exact (List.nodup_append.1 (List.nodup_append.1 hfn).2.1).1
  have hd12 : ∀ g ∈ u1.F, g ∉ u2.F := fun g h1 h2 => (List.nodup_append.1 hu12).2.2 g h1 g h2 rfl
  have hflt : ∀ g ∈ foot (X0 ++ u1 :: u2 :: Y0), g < w.heap.size := fun g hg => by
    obtain ⟨u', hu', hg'⟩ := mem_foot.1 hg
    exact (hI.kids u' hu').lt g hg'
  have hu1m : u1 ∈ X0 ++ u1 :: u2 :: Y0 := by simp
  have hu2m : u2 ∈ X0 ++ u1 :: u2 :: Y0 := by simp
  have hk40 := HB.out.2.2.2.2.2.2.2.2.1
  have hsrt12 : Srt (u1.L ++ u2.L) := by
    have := hI.srt
    rw [entsOf_append, entsOf_cons, entsOf_cons, ← List.append_assoc u1.L] at this
    exact this.parts.2.1.parts.1
  have hA : Ahead u1.L κ := sep_ahead hI.sep HB.out.2.2.2.2.2.2.2.1 (by omega)
  have hBh : ∀ r ∈ u2.L, ¬ klt (keyOf r) κ := by
    have hs' : Sep ks ((X0 ++ [u1]) ++ u2 :: Y0) := by
      have := hI.sep
      rwa [show X0 ++ u1 :: u2 :: Y0 = (X0 ++ [u1]) ++ u2 :: Y0 from by simp] at this
    exact sep_behind hs' HB.out.2.2.2.2.2.2.2.1 (by simp; omega)
  have t1 : TreeAt w1.drew d u1.v u1.L u1.k u1.F := ((HS.out.2.kids u1 hu1m)).nn (Mod.refl Nn w1).drew
  have t2 : TreeAt w1.drew d u2.v u2.L u2.k u2.F := ((HS.out.2.kids u2 hu2m)).nn (Mod.refl Nn w1).drew
  refine (join_any t1 t2 hd12 hsrt12 (by have := HB.out.2.2.1.2; omega) hk40.1 hk40.2 hA hBh).mono ?_
  rintro r w3 ⟨rfl, F', t3, hF3, m3⟩
  have m13 : Mod (· ∈ u1.F) w1 w3 := (Mod.refl Nn w1).drew.nn.trans m3
  have hF3' : ∀ g ∈ F', g ∈ u1.F ++ u2.F ∨ w1.heap.size ≤ g := fun g hg => (hF3 g hg).elim (fun h => .inl (List.mem_append_left _ h)) (fun h => h.elim (fun h => .inl (List.mem_append_right _ h)) .inr)
  have hw01 : w.heap.size ≤ w1.heap.size := H1.out.size
  have hw13 : w1.heap.size ≤ w3.heap.size := m13.size
  have hu1f : ∀ g ∈ u1.F, g ∈ foot (X0 ++ u1 :: u2 :: Y0) := fun g hg => mem_foot.2 ⟨u1, hu1m, hg⟩
  have hb3 := HS.out.1.mod m13 (fun h => ap.hb b (.inr (.inr (hu1f b h))) rfl)
  have hK3 := (hI.krow.nn H1.out).mod m13 (fun g hg h => ap.Kf g hg (hu1f g h))
  have hC3 := (hI.crow.nn H1.out).mod m13 (fun g hg h => ap.Cf g hg (hu1f g h))
  have hXY3 : ∀ u ∈ X0 ++ Y0, TreeAt w3 d u.v u.L u.k u.F := fun u hu => (HS.out.2.kids u (by
    rcases List.mem_append.1 hu with e | e
    · exact List.mem_append_left _ e
    · exact List.mem_append_right _ (List.mem_cons_of_mem _ (List.mem_cons_of_mem _ e)))).mod m13 (fun g hg h => kid_apart hfn u hu g hg (List.mem_append_left _ h))
  have H3 := Lib.hid (And.intro m13 (And.intro t3 (And.intro hF3' (And.intro hb3 (And.intro hK3 (And.intro hC3 (And.intro hXY3 (And.intro ap (And.intro hfn (And.intro hft hflt))))))))))
  clear m13 t3 hF3 hF3' hb3 hK3 hC3 hXY3 ap hfn hft hflt t1 t2 m3 hsrt12 hA hBh hk40 hI hu12 hd12 hu1f
  refine ⟨_, rfl, fun h => by simp at h, ?_⟩
  refine pt_nil ?_
  -- zzB
  have hc0 : w3.cell? ⟨b, 0, none⟩ = some (.slice (some ⟨gK, 0, none⟩) ks.length kc) := H3.out.2.2.2.1.cell 0
  go_wp2_with fail
  refine (sdelK_any (i := q) H3.out.2.2.2.2.1 (by omega) (bv_one _) (by omega)).mono ?_
  rintro r w4 ⟨rfl, h4, m4⟩
  clear hc0
  have hs4 : w3.heap.size ≤ w4.heap.size := m4.size
  have hbgK : b ≠ gK := fun e => H3.out.2.2.2.2.2.2.2.1.hb gK (.inl ⟨_, rfl, rfl⟩) e.symm
  have hbgC : b ≠ gC := fun e => H3.out.2.2.2.2.2.2.2.1.hb gC (.inr (.inl ⟨_, rfl, rfl⟩)) e.symm
  have hKC : gK ≠ gC := fun e => H3.out.2.2.2.2.2.2.2.1.KC gK ⟨_, rfl, rfl⟩ (e ▸ ⟨_, rfl, rfl⟩)
  have hofK : ∀ g, Of (some ⟨gK, 0, none⟩) g ↔ g = gK := fun g => ⟨fun ⟨a, ha, hx⟩ => by injection ha with ha; subst ha; exact hx.symm, fun h => ⟨_, rfl, h.symm⟩⟩
  have hofC : ∀ g, Of (some ⟨gC, 0, none⟩) g ↔ g = gC := fun g => ⟨fun ⟨a, ha, hx⟩ => by injection ha with ha; subst ha; exact hx.symm, fun h => ⟨_, rfl, h.symm⟩⟩
  have hb4 := H3.out.2.2.2.1.mod m4 (fun h => hbgK ((hofK b).1 h))
  have hC4 := H3.out.2.2.2.2.2.1.mod m4 (fun g hg h => hKC (((hofK g).1 h).symm.trans ((hofC g).1 hg)))
  have H4 := Lib.hid (And.intro h4 (And.intro m4 (And.intro hb4 hC4)))
  have HO := Lib.hid (And.intro hbgK (And.intro hbgC (And.intro hKC (And.intro hofK hofC))))
  clear h4 m4 hb4 hC4 hbgK hbgC hKC hofK hofC
  -- zzC
  go_wp2_with (first
    | (with_reducible change wpList _ _ _ (⟨none, Op.store _ (Operand.tmp 57) _, _, _, _, _⟩ :: _) _ _
       go_must (refine wpList_unit rfl (exec_store1 (P := Try.prog) (ad := ⟨b, 0, none⟩) (v := .slice (some ⟨gK, 0, none⟩) (ks.length - 1) kc) (u := .slice (some ⟨gK, 0, none⟩) ks.length kc) 75 _ _ rfl rfl rfl (H4.out.2.2.1.cell 0) (H4.out.2.2.1.frozen 0) rfl rfl rfl size_slK) ?_)
       have b5 : Blk (w4.setCell ⟨b, 0, none⟩ (.slice (some ⟨gK, 0, none⟩) (ks.length - 1) kc)) b 106 #[.slice (some ⟨gK, 0, none⟩) (ks.length - 1) kc, .slice (some ⟨gC, 0, none⟩) N cc] := H4.out.2.2.1.set_ 0 _
       have m5 : Mod (At b) w4 (w4.setCell ⟨b, 0, none⟩ (.slice (some ⟨gK, 0, none⟩) (ks.length - 1) kc)) := Mod.cellAt _ _ _ _
       generalize w4.setCell ⟨b, 0, none⟩ (.slice (some ⟨gK, 0, none⟩) (ks.length - 1) kc) = w5 at *
       have hc1 : w5.cell? ⟨b, 1, none⟩ = some (.slice (some ⟨gC, 0, none⟩) N cc) := b5.cell 1
       have H5 := Lib.hid (And.intro b5 m5)
       clear b5 m5))
  have hCN : (X0 ++ u1 :: u2 :: Y0).length = N := by rw [← HB.out.2.2.2.2.2.2.2.2.2.2.1]; exact hN
  have hC5 := H4.out.2.2.2.mod H5.out.2 (fun g hg h => HO.out.2.1 (h.symm.trans ((HO.out.2.2.2.2 g).1 hg)))
  rw [hCN] at hC5
  have hd := sdelP_gen (i := q + 1) rfl hC5 hqN (fun v hv => by
    obtain ⟨t', ht', rfl⟩ := List.mem_map.1 hv
    exact tree_one (HB.out.1.kids t' ht')) (by omega)
  rw [show ((q + 1 : Nat) : Int) = (q : Int) + 1 from rfl, show (q : Int) + 1 + 1 = (q : Int) + 2 from by omega] at hd
  refine hd.mono ?_
  clear hd hC5 hc1
  rintro r w6 ⟨rfl, h6, m6⟩
  have hs5 : w4.heap.size ≤ w5.heap.size := H5.out.2.size
  have hs6 : w5.heap.size ≤ w6.heap.size := m6.size
  have hb6 := H5.out.1.mod m6 (fun h => HO.out.2.1 ((HO.out.2.2.2.2 b).1 h))
  have H6 := Lib.hid (And.intro h6 (And.intro m6 hb6))
  clear h6 m6 hb6
  -- zzD
  go_wp2_with (first
    | (with_reducible change wpList _ _ _ (⟨none, Op.store _ (Operand.tmp 69) _, _, _, _, _⟩ :: _) _ _
       go_must (refine wpList_unit rfl (exec_store1 (P := Try.prog) (ad := ⟨b, 1, none⟩) (v := .slice (some ⟨gC, 0, none⟩) (N - 1) cc) (u := .slice (some ⟨gC, 0, none⟩) N cc) 104 _ _ rfl rfl rfl (H6.out.2.2.cell 1) (H6.out.2.2.frozen 1) rfl rfl rfl size_slP) ?_)
       have b7 : Blk (w6.setCell ⟨b, 1, none⟩ (.slice (some ⟨gC, 0, none⟩) (N - 1) cc)) b 106 #[.slice (some ⟨gK, 0, none⟩) (ks.length - 1) kc, .slice (some ⟨gC, 0, none⟩) (N - 1) cc] := H6.out.2.2.set_ 1 _
       have m7 : Mod (At b) w6 (w6.setCell ⟨b, 1, none⟩ (.slice (some ⟨gC, 0, none⟩) (N - 1) cc)) := Mod.cellAt _ _ _ _
       generalize w6.setCell ⟨b, 1, none⟩ (.slice (some ⟨gC, 0, none⟩) (N - 1) cc) = w7 at *
       have H7 := Lib.hid (And.intro b7 m7)
       clear b7 m7))
  have hI := HB.out.1
  have hq0 : X0.length = q := HB.out.2.2.2.2.2.2.2.2.2.2.2
  have ap := H3.out.2.2.2.2.2.2.2.1
  have hfn := H3.out.2.2.2.2.2.2.2.2.1
  have hft := H3.out.2.2.2.2.2.2.2.2.2.1
  have hflt := H3.out.2.2.2.2.2.2.2.2.2.2
  have hF3 := H3.out.2.2.1
  have hbw : b < w.heap.size := hI.blk.lt
  have hKw : gK < w.heap.size := hI.krow.lt ⟨_, rfl, rfl⟩
  have hCw : gC < w.heap.size := hI.crow.lt ⟨_, rfl, rfl⟩
  have hw01 : w.heap.size ≤ w1.heap.size := H1.out.size
  have m37 : Mod (fun g => g = b ∨ g = gK ∨ g = gC) w3 w7 := (H4.out.2.1.mono (fun g _ h => .inr (.inl ((HO.out.2.2.2.1 g).1 h)))).trans ((H5.out.2.mono (fun g _ h => .inl h)).trans ((H6.out.2.1.mono (fun g _ h => .inr (.inr ((HO.out.2.2.2.2 g).1 h)))).trans (H7.out.2.mono (fun g _ h => .inl h))))
  have hfar : ∀ g, (g ∈ foot (X0 ++ u1 :: u2 :: Y0) ∨ w.heap.size ≤ g) → ¬ (g = b ∨ g = gK ∨ g = gC) := fun g hg e => by
    rcases hg with hg | hg
    · rcases e with e | e | e
      · exact ap.hb g (.inr (.inr hg)) e
      · exact ap.Kf g ⟨_, rfl, e.symm⟩ hg
      · exact ap.Cf g ⟨_, rfl, e.symm⟩ hg
    · rcases e with e | e | e <;> omega
  obtain ⟨un, hun⟩ : ∃ u : Kid, u = ⟨u1.v, u1.L ++ u2.L, u1.k + u2.k, F'⟩ := ⟨_, rfl⟩
  have hunL : un.L = u1.L ++ u2.L := by rw [hun]
  have hunF : ∀ g ∈ un.F, g ∈ u1.F ++ u2.F ∨ w1.heap.size ≤ g := by rw [hun]; exact hF3
  have hu12f : ∀ g ∈ u1.F ++ u2.F, g ∈ foot (X0 ++ u1 :: u2 :: Y0) := fun g hg => by
    rcases List.mem_append.1 hg with h | h
    · exact mem_foot.2 ⟨u1, by simp, h⟩
    · exact mem_foot.2 ⟨u2, by simp, h⟩
  have hfoot : ∀ g ∈ foot (X0 ++ un :: Y0), g ∈ foot (X0 ++ u1 :: u2 :: Y0) ∨ w.heap.size ≤ g := fun g hg => by
    rw [foot_append, foot_cons] at hg
    rcases List.mem_append.1 hg with h | h
    · exact .inl (by rw [foot_append]; exact List.mem_append_left _ h)
    · rcases List.mem_append.1 h with h | h
      · exact (hunF g h).imp (hu12f g) (fun h => by omega)
      · refine .inl ?_
        rw [foot_append, foot_cons, foot_cons]
        exact List.mem_append_right _ (List.mem_append_right _ (List.mem_append_right _ h))
  have hunt : TreeAt w7 d un.v un.L un.k un.F := by
    have := H3.out.2.1.mod m37 (fun g hg => hfar g ((hF3 g hg).imp (hu12f g) (fun h => by omega)))
    rw [hun]; exact this
  have hnd7 : (foot (X0 ++ ([un] ++ Y0))).Nodup := foot_swap hfn (fun g hg => hflt g (by rw [hft]; exact hg)) (by simpa [foot] using hunt.nodup) (fun g hg => (hunF g (by simpa [foot] using hg)).imp id (fun h => by omega))
  have hkl : (ks.take q ++ ks.drop (q + 1)).length = ks.length - 1 := by rw [List.length_append, List.length_take, List.length_drop]; omega
  have htl : (X0 ++ un :: Y0).length = N - 1 := by rw [← hCN]; simp
  have hin7 : InnerAt (TreeAt w7 d) w7 b (ks.take q ++ ks.drop (q + 1)) (X0 ++ un :: Y0) (b :: (blks (some ⟨gK, 0, none⟩) ++ (blks (some ⟨gC, 0, none⟩) ++ foot (X0 ++ un :: Y0)))) (some ⟨gK, 0, none⟩) kc (some ⟨gC, 0, none⟩) cc := by
    refine ⟨?_, ?_, ?_, ?_, ?_, ?_, ?_, ?_, ?_, rfl, ?_⟩
    · rw [hkl, htl]; exact H7.out.1
    · have e : (bv ks.flatten).take (q * 40) ++ (bv ks.flatten).drop ((q + 1) * 40) = bv (ks.take q ++ ks.drop (q + 1)).flatten := by
        rw [bv_take, rows_take (fun r hr => (hI.krows r hr).1), bv_drop, rows_drop (fun r hr => (hI.krows r hr).1), ← bv_append, List.flatten_append]
      rw [hkl, ← e]
      exact ((H4.out.1.mod H5.out.2 (fun g hg h => HO.out.1 (h.symm.trans ((HO.out.2.2.2.1 g).1 hg)))).mod H6.out.2.1 (fun g hg h => HO.out.2.2.1 (((HO.out.2.2.2.1 g).1 hg).symm.trans ((HO.out.2.2.2.2 g).1 h)))).mod H7.out.2 (fun g hg h => HO.out.1 (h.symm.trans ((HO.out.2.2.2.1 g).1 hg)))
    · intro r hr
      rcases List.mem_append.1 hr with hr | hr
      · exact hI.krows r (List.mem_of_mem_take hr)
      · exact hI.krows r (List.mem_of_mem_drop hr)
    · have hp2 := List.pairwise_append.1 ((List.take_append_drop q ks).symm ▸ hI.ksrt : (ks.take q ++ ks.drop q).Pairwise klt)
      have hsub : ∀ x ∈ ks.drop (q + 1), x ∈ ks.drop q := fun x hx => by
        rw [← List.drop_drop] at hx; exact List.mem_of_mem_drop hx
      exact List.pairwise_append.2 ⟨hp2.1, hI.ksrt.sublist (List.drop_sublist _ _), fun x hx y hy => hp2.2.2 x hx y (hsub y hy)⟩
    · have e : ((X0 ++ u1 :: u2 :: Y0).map (·.v)).take ((q + 1) * 1) ++ ((X0 ++ u1 :: u2 :: Y0).map (·.v)).drop ((q + 1 + 1) * 1) = (X0 ++ un :: Y0).map (·.v) := by
        rw [Nat.mul_one, Nat.mul_one, ← List.map_take, ← List.map_drop, List.take_append, List.drop_append, List.take_of_length_le (by omega), List.drop_of_length_le (by omega), hq0, show q + 1 - q = 1 from by omega, show q + 1 + 1 - q = 2 from by omega, hun]
        simp
      rw [htl, ← e]
      exact H6.out.1.mod H7.out.2 (fun g hg h => HO.out.2.1 (h.symm.trans ((HO.out.2.2.2.2 g).1 hg)))
    · rw [hkl, htl]; omega
    · intro u hu
      have hold : u ∈ X0 ++ Y0 → TreeAt w7 d u.v u.L u.k u.F := fun h => (H3.out.2.2.2.2.2.2.1 u h).mod m37 (fun g hg => hfar g (.inl (mem_foot.2 ⟨u, by
        rcases List.mem_append.1 h with h | h
        · exact List.mem_append_left _ h
        · exact List.mem_append_right _ (List.mem_cons_of_mem _ (List.mem_cons_of_mem _ h)), hg⟩)))
      rcases List.mem_append.1 hu with hu | hu
      · exact hold (List.mem_append_left _ hu)
      · rcases List.mem_cons.1 hu with rfl | hu
        · exact hunt
        · exact hold (List.mem_append_right _ hu)
    · rw [mend_ents hunL]; exact hI.srt
    · have := mend_sep (u := un) hI.sep (by rw [hq0]; omega) hunL
      rwa [hq0] at this
    · refine inner_nd (fun g hg e => ?_) ap.KC (fun g h1 h2 => ?_) (fun g h1 h2 => ?_) hnd7
      · rcases hg with h | h | h
        · exact ap.hb g (.inl h) e
        · exact ap.hb g (.inr (.inl h)) e
        · exact hfar g (hfoot g h) (.inl e)
      · exact hfar g (hfoot g h2) (.inr (.inl ((HO.out.2.2.2.1 g).1 h1)))
      · exact hfar g (hfoot g h2) (.inr (.inr ((HO.out.2.2.2.2 g).1 h1)))
  have hmF : ∀ g, g = b ∨ g = gK ∨ g = gC ∨ g ∈ foot (X0 ++ u1 :: u2 :: Y0) → g ∈ F := fun g hg => hI.mem.2 (hg.elim .inl (fun e => .inr (e.elim (fun e => .inl ⟨_, rfl, e.symm⟩) (fun e => .inr (e.elim (fun e => .inl ⟨_, rfl, e.symm⟩) (fun e => .inr (mem_foot.1 e)))))))
  have hF7 : ∀ g ∈ (b :: (blks (some ⟨gK, 0, none⟩) ++ (blks (some ⟨gC, 0, none⟩) ++ foot (X0 ++ un :: Y0)))), g ∈ F ∨ w.heap.size ≤ g := fun g hg => by
    simp only [blks, List.mem_cons, List.mem_append, List.not_mem_nil, or_false] at hg
    rcases hg with h | h | h | h
    · exact .inl (hmF g (.inl h))
    · exact .inl (hmF g (.inr (.inl h)))
    · exact .inl (hmF g (.inr (.inr (.inl h))))
    · exact (hfoot g h).imp (fun h => hmF g (.inr (.inr (.inr h)))) id
  have m17 : Mod (· ∈ F) w1 w7 := (H3.out.1.mono (fun g _ h => hmF g (.inr (.inr (.inr (hu12f g (List.mem_append_left _ h))))))).trans (m37.mono (fun g _ h => hmF g (h.imp id (fun h => h.imp id .inl))))
  have hkk : un.k = u1.k + u2.k := by rw [hun]
  have hcut := icut_any hin7 HB.out.2.1 (by rw [hkk]; exact HB.out.2.2.1.1) (by rw [hkk]; exact HB.out.2.2.1.2) (by rw [htl]; omega)
  rw [hq0, htl, mend_ents hunL] at hcut
  refine hcut.mono ?_
  have H8 := Lib.hid (And.intro hF7 (H1.out.nn.trans m17 : Mod (· ∈ F) w w7))
  clear hcut hin7 hF7 m17 hmF hkk hnd7 hunt hfoot hu12f hunF hunL hfar m37 hfn hft hflt hF3 ap hI
  rintro r w8 ⟨rfl, ks', ts', F2, K2, kc2, C2, cc2, hI8, hen, hb8, hn1, hn2, hF8, m8⟩
  have hw07 : w.heap.size ≤ w7.heap.size := H8.out.2.size
  have H9 := Lib.hid (And.intro hI8 (And.intro hen (And.intro hb8 (And.intro hF8 m8))))
  clear hI8 hen hb8 hF8 m8
  go_wp2
  go_end0
  refine ⟨rfl, ks', ts', F2, K2, kc2, C2, cc2, H9.out.1, by rw [H9.out.2.1, HB.out.2.2.2.2.2.2.2.2.2.2.1], H9.out.2.2.1, by omega, by omega, fun g hg => ?_, ?_, fun hc => absurd hc (by omega)⟩
  · exact (H9.out.2.2.2.1 g hg).elim (H8.out.1 g) (fun h => .inr (by omega))
  · exact (H8.out.2.mono (T := fun g => g ∈ F ∨ w.heap.size ≤ g) (fun g _ h => .inl h)).then_ H9.out.2.2.2.2 (fun g hg h => H8.out.1 g h) |>.mono (fun g hg h => h.elim id (fun h => by omega))
end
end Go.Proofs.Ytkcpmkeckcnobaa

/- tree.del. -/
namespace Go.Proofs.Ytkcpmkeckcnobaa
open Go.RowKit

/-- what del tells -/
def DelP (w : World) (d : Nat) (v : Value) (L : List (List Nat)) (k : Nat) (F : List Nat) (κ : List Nat) (r : Ending) (w' : World) : Prop :=
  r = .returned (.bool (has L κ)) ∧ ∃ k' F', TreeAt w' d v (dele L κ) k' F' ∧ k' ≤ k ∧ k ≤ k' + 1 ∧ (∀ g ∈ F', g ∈ F ∨ w.heap.size ≤ g) ∧ Mod (· ∈ F) w w' ∧ (has L κ = false → k' = k)
section
variable {w : World} {v : Value} {L : List (List Nat)} {k b c : Nat} {F κ : List Nat} {A : Option Addr}
set_option maxRecDepth 100000 in
set_option maxHeartbeats 6400000 in
theorem del_leaf (h : LeafAt w v L k F b A c) (hn : L.length ≤ 549755813888) (he : κ.length = 40) (hez : ∀ z ∈ κ, z < 256) : Calls Try.prog 46 #[v, .agg (bv κ).toArray] w (DelP w 0 v L k F κ) := by
  obtain ⟨rfl, hb, hrow, hrows, hsrt, rfl, rfl, hnd⟩ := h
  have hle := hrow.le
  have HB := Lib.hid (And.intro hb (And.intro hrow (And.intro hrows (And.intro hsrt (And.intro hnd hez)))))
  clear hb hrow hrows hsrt hnd hez
  generalize hXX : leafV b = XX
  have HX := Lib.hid hXX
  unfold leafV at hXX
  subst hXX
  go_enter Try.func46, Try.ntmps46
  go_wp2_with (first
    | (with_reducible change wpList _ _ _ (⟨some 3, Op.box _ _, _, _, _, _⟩ :: _) _ _
       go_must (refine wpList_box_var 23 _ rfl rfl (bv κ).toArray rfl ?_)
       intro w1 b1 m1 z1
       clear z1
       have hs1 : w.heap.size < w1.heap.size := b1.lt
       have H1 := Lib.hid (And.intro m1 b1)
       clear m1 b1)
    | (with_reducible change wpList _ _ _ (⟨some 12, _, _, _, _, _⟩ :: _) _ _
       go_must (refine wpList_val rfl (exec_assert_yes (P := Try.prog) _ _ _ _ rfl rfl Try.underlying109) ?_)
       rw [if_pos rfl])
    | (with_reducible change wpList _ _ _ (⟨some 17, _, _, _, _, _⟩ :: _) _ _
       go_must (refine wpList_val rfl (exec_load_row (P := Try.prog) (g := w.heap.size) (cs := (bv κ).toArray) 23 _ rfl rfl H1.out.2 Try.underlying23 rfl (size_keyk he)) ?_)))
  refine (place_any (HB.out.1.mod H1.out.1 (fun f => f)) (HB.out.2.1.nn H1.out.1).rd HB.out.2.2.1 rfl he HB.out.2.2.2.2.2 (by omega) (by rw [List.pairwise_map]; exact HB.out.2.2.2.1)).mono ?_
  rintro r w2 ⟨i, rfl, hpl, m2⟩
  have hil := hpl.le
  rw [List.length_map] at hil
  have hs2 : w1.heap.size ≤ w2.heap.size := m2.size
  have hc0 : w2.cell? ⟨b, 0, none⟩ = some (.slice A L.length c) := (HB.out.1.mod (H1.out.1.nn_ m2) (fun f => f)).cell 0
  have H2 := Lib.hid (And.intro (H1.out.1.nn_ m2) hpl)
  clear m2 hpl
  have hw1 : IntKind.i64.wrap ((i : Int) + 1) = (i : Int) + 1 := by rw [IntKind.wrap_i64]; omega
  by_cases hc : i < L.length ∧ (L.map keyOf).getD i [] = κ
  · have hi := hc.1
    rw [decide_eq_true hc]
    have HC := Lib.hid (place_there H2.out.2 HB.out.2.2.2.1 hi hc.2)
    clear hc
    go_wp2_with fail
    refine (sdelE_any (i := i) (HB.out.2.1.nn H2.out.1) hi (bv_one _) (by omega)).mono ?_
    rintro r w3 ⟨rfl, h3, m3⟩
    clear hc0
    have hbA : ¬ Of A b := fun hg => by
      have := HB.out.2.2.2.2.1
      rw [List.nodup_cons] at this
      exact this.1 (mem_blks.2 hg)
    have hb3 := (HB.out.1.mod H2.out.1 (fun f => f)).mod m3 hbA
    have H3 := Lib.hid (And.intro h3 (And.intro m3 (And.intro hb3 hbA)))
    clear h3 m3 hb3 hbA
    go_wp2_with (first
      | (with_reducible change wpList _ _ _ (⟨none, Op.store _ (Operand.tmp 32) _, _, _, _, _⟩ :: _) _ _
         go_must (refine wpList_unit rfl (exec_store1 (P := Try.prog) (ad := ⟨b, 0, none⟩) (v := .slice A (L.length - 1) c) (u := .slice A L.length c) 40 _ _ rfl rfl rfl (H3.out.2.2.1.cell 0) (H3.out.2.2.1.frozen 0) rfl rfl rfl size_slE) ?_)
         have b4 : Blk (w3.setCell ⟨b, 0, none⟩ (.slice A (L.length - 1) c)) b 111 #[.slice A (L.length - 1) c] := H3.out.2.2.1.set_ 0 _
         have m4 : Mod (At b) w3 (w3.setCell ⟨b, 0, none⟩ (.slice A (L.length - 1) c)) := Mod.cellAt _ _ _ _
         generalize w3.setCell ⟨b, 0, none⟩ (.slice A (L.length - 1) c) = w4 at *
         have H4 := Lib.hid (And.intro b4 m4)
         clear b4 m4))
    go_ret
    have hC := HC.out
    have hdel : dele L κ = L.take i ++ L.drop (i + 1) := by unfold dele; rw [hC.1, hC.2.1]
    have hlen : (dele L κ).length = L.length - 1 := by rw [hdel, List.length_append, List.length_take, List.length_drop]; omega
    have hfl : (bv L.flatten).take (i * 80) ++ (bv L.flatten).drop ((i + 1) * 80) = bv (dele L κ).flatten := by
      rw [hdel, bv_take, rows_take (fun r hr => (HB.out.2.2.1 r hr).1), bv_drop, rows_drop (fun r hr => (HB.out.2.2.1 r hr).1), ← bv_append, List.flatten_append]
    refine ⟨by rw [hC.2.2.1]; rfl, L.length - 1, b :: blks A, ⟨b, A, c, rfl, ?_, ?_, rows_dele HB.out.2.2.1, srt_dele HB.out.2.2.2.1 κ, hlen.symm, rfl, HB.out.2.2.2.2.1⟩, by omega, by omega, fun g hg => .inl hg, ?_, fun hc => by rw [hC.2.2.1] at hc; cases hc⟩
    · rw [hlen]; exact H4.out.1
    · rw [hlen, ← hfl]
      exact H3.out.1.mod H4.out.2 (fun g hg ee => by have ee : g = b := ee; exact H3.out.2.2.2 (ee ▸ hg))
    · exact H2.out.1.nn.trans ((H3.out.2.1.mono (fun g _ h => List.mem_cons_of_mem _ (mem_blks.2 h))).trans (H4.out.2.mono (fun g _ h => by have h : g = b := h; rw [h]; exact List.mem_cons_self)))
  · rw [decide_eq_false hc]
    have HC := Lib.hid (place_not H2.out.2 HB.out.2.2.2.1 hc)
    clear hc
    go_wp2
    go_ret
    have hC := HC.out
    have hdel : dele L κ = L := by unfold dele; rw [hC.1, hC.2.1, List.take_append_drop]
    refine ⟨by rw [hC.2.2.1]; rfl, L.length, b :: blks A, ?_, Nat.le_refl _, by omega, fun g hg => .inl hg, H2.out.1.nn, fun _ => rfl⟩
    rw [hdel]
    exact ⟨b, A, c, rfl, HB.out.1.mod H2.out.1 (fun f => f), HB.out.2.1.nn H2.out.1, HB.out.2.2.1, HB.out.2.2.2.1, rfl, rfl, HB.out.2.2.2.2.1⟩
end
end Go.Proofs.Ytkcpmkeckcnobaa

/- tree.del of any part. -/
namespace Go.Proofs.Ytkcpmkeckcnobaa
open Go.RowKit

theorem mend_any {w : World} {ks : List (List Nat)} {X Y : List Kid} {t : Kid} {d b kc cc : Nat} {F : List Nat} {K C : Option Addr} (h : InnerAt (TreeAt w d) w b ks (X ++ t :: Y) F K kc C cc) (hbd : ∀ u ∈ X ++ Y, loB d ≤ u.k ∧ u.k ≤ hiB d) (hlo : loB d ≤ t.k + 1) (hhi : t.k ≤ hiB d) (h2 : 2 ≤ (X ++ t :: Y).length) (hn : (X ++ t :: Y).length ≤ 274877906944) :
    Calls Try.prog 70 #[.pointer (some ⟨b, 0, none⟩), .int .i64 X.length] w (MendP w d b (entsOf (X ++ t :: Y)) (X ++ t :: Y).length F t.k) := by
  by_cases hl : t.k < loB d
  · exact mend_little h hbd hlo hl h2 hn
  · exact mend_big h hbd (by omega) hhi
section
variable {b c kc cc d : Nat} {κ : List Nat}
set_option maxRecDepth 100000 in
set_option maxHeartbeats 6400000 in
theorem del_any (he : κ.length = 40) (hez : ∀ z ∈ κ, z < 256) : ∀ (d : Nat) (w : World) (v : Value) (L : List (List Nat)) (k : Nat) (F : List Nat), TreeAt w d v L k F → (d = 0 ∨ 2 ≤ k) → k ≤ 274877906944 → Calls Try.prog 46 #[v, .agg (bv κ).toArray] w (DelP w d v L k F κ) := by
  intro d
  induction d with
  | zero =>
    rintro w v L k F ⟨b, A, c, h⟩ _ hk
    exact del_leaf h (by rw [← h.ke]; omega) he hez
  | succ d ih =>
    rintro w v L k F ⟨b, ks, ts, K, kc, C, cc, h, rfl, rfl, rfl, hbd⟩ h2 hk
    have h2' : 2 ≤ ts.length := h2.elim (fun e => by cases e) id
    clear h2
    have hkl := h.len
    have HB := Lib.hid (And.intro h (And.intro hbd (And.intro hez ih)))
    clear h hbd hez ih
    generalize hXX : innerV b = XX
    have HX := Lib.hid hXX
    unfold innerV at hXX
    subst hXX
    go_enter Try.func46, Try.ntmps46
    go_wp2_with (first
      | (with_reducible change wpList _ _ _ (⟨some 3, Op.box _ _, _, _, _, _⟩ :: _) _ _
         go_must (refine wpList_box_var 23 _ rfl rfl (bv κ).toArray rfl ?_)
         intro w1 b1 m1 z1
         clear z1
         have hs1 : w.heap.size < w1.heap.size := b1.lt
         have H1 := Lib.hid (And.intro m1 b1)
         clear m1 b1)
      | (with_reducible change wpList _ _ _ (⟨some 12, _, _, _, _, _⟩ :: _) _ _
         go_must (refine wpList_val rfl (exec_assert_no (P := Try.prog) _ _ _ rfl rfl (by decide) Try.underlying109 info_pleaf) ?_))
      | (with_reducible change wpList _ _ _ (⟨some 34, _, _, _, _, _⟩ :: _) _ _
         go_must (refine wpList_val rfl (exec_assert_yes (P := Try.prog) _ _ _ _ rfl rfl Try.underlying103) ?_)
         rw [if_pos rfl])
      | (with_reducible change wpList _ _ _ (⟨some 38, _, _, _, _, _⟩ :: _) _ _
         go_must (refine wpList_val rfl (exec_load_row (P := Try.prog) (g := w.heap.size) (cs := (bv κ).toArray) 23 _ rfl rfl H1.out.2 Try.underlying23 rfl (size_keyk he)) ?_)))
    refine (kid_any (HB.out.1.blk.mod H1.out.1 (fun f => f)) (HB.out.1.krow.nn H1.out.1).rd HB.out.1.krows rfl he HB.out.2.2.1 (by omega) HB.out.1.ksrt).mono ?_
    rintro r w2 ⟨i, rfl, hkx, m2⟩
    obtain ⟨X, t, Y, rfl, rfl, hXk, hYk⟩ := kid_split hkx HB.out.1.sep hkl
    obtain ⟨gC, rfl, hct⟩ := kid_cell HB.out.1
    have hs2 : w1.heap.size ≤ w2.heap.size := m2.size
    obtain ⟨p, hp⟩ : ∃ p, X.length = p := ⟨_, rfl⟩
    obtain ⟨N, hN⟩ : ∃ N, (X ++ t :: Y).length = N := ⟨_, rfl⟩
    have hpN : p < N := by rw [← hN, ← hp]; simp
    have hI2 : InnerAt (TreeAt w2 d) w2 b ks (X ++ t :: Y) F K kc (some ⟨gC, 0, none⟩) cc := HB.out.1.mod (H1.out.1.nn_ m2) (fun _ _ f => f) (fun u hu hq => hq.nn (H1.out.1.nn_ m2))
    have hb2 := hI2.blk
    rw [hN] at hb2
    have H2 := Lib.hid (And.intro (H1.out.1.nn_ m2) (And.intro (H1.out.2.mod m2 (fun f => f)) (And.intro hkx (And.intro hXk (And.intro hYk (And.intro hct (And.intro hp (And.intro hN (And.intro hI2 hb2)))))))))
    clear m2 hkx hXk hYk hct hI2 hb2
    rw [hN] at hkl hk h2'
    rw [hp]
    clear hp hN
    -- zzA
    go_wp2_with fail
    refine wp_region_planT (fun w' => Mod Nn w2 w') 8 [(0, 0), (1, 0), (2, 0), (3, 1), (4, 0), (5, 0), (6, 1), (7, 1), (8, 2), (9, 0)] (by kernel_rfl) (by kernel_rfl) (Mod.refl Nn w2).drew ?_
    iterate 3 (refine pt_pure rfl rfl (fun K hK => ?_); go_simp; refine hK _ ?_; clear hK K)
    refine pt_take (.slice (some ⟨gC, 0, none⟩) N cc) rfl rfl (fun w' hS => exec_load1 (P := Try.prog) 104 (.tmp 42) rfl rfl ((H2.out.2.2.2.2.2.2.2.2.2.mod hS (fun f => f)).cell 1) Try.underlying104 rfl) (fun K hK => ?_); go_simp; refine hK _ ?_; clear hK K
    iterate 1 (refine pt_pure rfl rfl (fun K hK => ?_); go_simp; refine hK _ ?_; clear hK K)
    refine pt_is (.pointer (some ⟨gC, 0 + p * 1, none⟩)) rfl rfl (fun w' => exec_elem (P := Try.prog) (g := gC) (off := 0) (q := p) 104 (.tmp 43) (.tmp 44) rfl 37 1 uuP sizeP rfl rfl hpN) (fun K hK => ?_); go_simp; refine hK _ ?_; clear hK K
    refine pt_take t.v rfl rfl (fun w' hS => exec_load1 (P := Try.prog) (ad := ⟨gC, p, none⟩) 37 (.tmp 45) rfl rfl (H2.out.2.2.2.2.2.2.1 ▸ H2.out.2.2.2.2.2.1 w' (H2.out.1.nn_ hS)) Try.underlying37 rfl) (fun K hK => ?_); go_simp; refine hK _ ?_; clear hK K
    refine pt_take (.agg (bv κ).toArray) rfl rfl (fun w' hS => exec_load_row (P := Try.prog) (g := w.heap.size) (cs := (bv κ).toArray) 23 (.tmp 3) rfl rfl (H2.out.2.1.mod hS (fun f => f)) Try.underlying23 rfl (size_keyk he)) (fun K hK => ?_); go_simp; refine hK _ ?_; clear hK K
    refine pt_call rfl rfl (fun K hK => ?_); go_simp; refine ⟨_, _, ⟨rfl, rfl⟩, hK _ _ _ ?_⟩; clear hK K
    have hkb : loB d ≤ t.k ∧ t.k ≤ hiB d := HB.out.2.1 t (by simp)
    have hbig : hiB d ≤ 20 ∧ 12 ≤ hiB d ∧ 6 ≤ loB d := by cases d <;> simp [hiB, loB]
    have htt : TreeAt w2.drew d t.v t.L t.k t.F := (H2.out.2.2.2.2.2.2.2.2.1.kids t (by simp)).nn (Mod.refl Nn w2).drew
    refine (HB.out.2.2.2 w2.drew t.v t.L t.k t.F htt (.inr (by omega)) (by omega)).mono ?_
    rintro r w3 ⟨rfl, k', F', ht3, hk1, hk2, hF3, m3, hk3⟩
    refine ⟨_, rfl, fun h => by simp at h, ?_⟩
    iterate 1 (refine pt_pure rfl rfl (fun K hK => ?_); go_simp; refine hK _ ?_; clear hK K)
    refine pt_nil ?_
    have hsw := H2.out.2.2.2.2.2.2.2.2.1.swap (w' := w3) (t' := ⟨t.v, dele t.L κ, k', F'⟩) ((Mod.refl Nn w2).drew.nn.trans m3) rfl ht3 hF3 (by
      rw [entsOf_append, entsOf_cons]
      show Srt (entsOf X ++ (dele t.L κ ++ entsOf Y))
      rw [← dele_mid H2.out.2.2.2.1 H2.out.2.2.2.2.1, ← entsOf_cons, ← entsOf_append]
      exact srt_dele HB.out.1.srt κ) (sep_dele HB.out.1.sep rfl)
    have H3 := Lib.hid (And.intro hsw ((Mod.refl Nn w2).drew.nn.trans m3 : Mod (· ∈ t.F) w2 w3))
    have HK3 := Lib.hid hk3
    clear hk3
    clear hsw m3 ht3 hF3 htt
    -- zzB
    go_wp2_with fail
    have hNl : (X ++ (⟨t.v, dele t.L κ, k', F'⟩ : Kid) :: Y).length = N := by have := H2.out.2.2.2.2.2.2.2.1; simp at this ⊢; omega
    have hmend := mend_any (kc := kc) (cc := cc) H3.out.1.1 (fun u hu => HB.out.2.1 u (by
      rcases List.mem_append.1 hu with hu | hu
      · exact List.mem_append_left _ hu
      · exact List.mem_append_right _ (List.mem_cons_of_mem _ hu))) (show loB d ≤ k' + 1 by omega) (show k' ≤ hiB d by omega) (by rw [hNl]; omega) (by rw [hNl]; omega)
    rw [H2.out.2.2.2.2.2.2.1, hNl] at hmend
    refine hmend.mono ?_
    clear hmend
    rintro r w4 ⟨rfl, ks', ts', F2, K2, kc2, C2, cc2, hI4, hen, hb4, hn1, hn2, hF4, m4, hn3⟩
    have HN3 := Lib.hid hn3
    clear hn3
    have H4 := Lib.hid (And.intro hI4 (And.intro hen (And.intro hb4 (And.intro hF4 m4))))
    clear hI4 hen hb4 hF4 m4
    -- zzC
    go_wp2
    go_ret
    have hNo := H2.out.2.2.2.2.2.2.2.1
    have hhas : has (entsOf (X ++ t :: Y)) κ = has t.L κ := by
      rw [entsOf_append, entsOf_cons]; exact has_mid H2.out.2.2.2.1 H2.out.2.2.2.2.1
    have hents : entsOf (X ++ (⟨t.v, dele t.L κ, k', F'⟩ : Kid) :: Y) = dele (entsOf (X ++ t :: Y)) κ := by
      rw [entsOf_append, entsOf_cons, entsOf_append, entsOf_cons]; exact (dele_mid H2.out.2.2.2.1 H2.out.2.2.2.2.1).symm
    have hs23 : w2.heap.size ≤ w3.heap.size := H3.out.2.size
    have hs02 : w.heap.size ≤ w2.heap.size := H2.out.1.size
    refine ⟨by rw [hhas]; rfl, ts'.length, F2, ⟨b, ks', ts', K2, kc2, C2, cc2, H4.out.1, rfl, by rw [H4.out.2.1, hents], rfl, H4.out.2.2.1⟩, by rw [hNo]; exact hn2, by rw [hNo]; exact hn1, fun g hg => ?_, ?_, fun hc => by rw [hNo]; exact HN3.out (by rw [hhas] at hc; show loB d ≤ k'; rw [HK3.out hc]; exact (HB.out.2.1 t (by simp)).1)⟩
    · rcases H4.out.2.2.2.1 g hg with h | h
      · exact (H3.out.1.2 g h).imp id (fun h => by omega)
      · exact .inr (by omega)
    · have htF : ∀ g ∈ t.F, g ∈ F := fun g hg => HB.out.1.mem.2 (.inr (.inr (.inr ⟨t, by simp, hg⟩)))
      refine H2.out.1.nn.then_ ((H3.out.2.mono (T := fun g => g ∈ F ∨ w2.heap.size ≤ g) (fun g _ h => .inl (htF g h))).then_ H4.out.2.2.2.2 (fun g _ h => H3.out.1.2 g h)) (fun g hg h => h.elim id (fun h => by omega))
end
end Go.Proofs.Ytkcpmkeckcnobaa

/- tree.after of a leaf. -/
namespace Go.Proofs.Ytkcpmkeckcnobaa
open Go.RowKit

def ze : List Nat := List.replicate 80 0
/-- an answer: an entry, or none -/
def optV (o : Option (List Nat)) : Value := .tuple #[.agg (bv (o.getD ze)).toArray, .bool o.isSome]
theorem info_entz : (Try.prog.info? 28).map (fun i => (i.zero, i.size)) = some (some (.agg (bv ze).toArray), 80) := by kernel_rfl
theorem ze_len : ze.length = 80 := rfl
theorem exec_zero_ent {o : Oper} {a : Act} {w : World} (ho : o.op = .build 28 #[]) : (execOp a.eval o).run Try.prog w = .ok (.value (.agg (bv ze).toArray)) w := by
  have hr : (Instr.build 28 #[]).run Try.prog w = .ok (.agg (bv ze).toArray) w := run_build w 28 #[] (bv ze).toArray (by kernel_rfl)
  simp [execOp, ho, hr, Result.andThen]
section
variable {w : World} {v : Value} {L : List (List Nat)} {k b c : Nat} {F κ : List Nat} {A : Option Addr} {wi : Bool}
set_option maxRecDepth 100000 in
set_option maxHeartbeats 6400000 in
theorem after_leaf (h : LeafAt w v L k F b A c) (hn : L.length ≤ 549755813888) (he : κ.length = 40) (hez : ∀ z ∈ κ, z < 256) : Calls Try.prog 53 #[v, .agg (bv κ).toArray, .bool wi] w fun r w' => r = .returned (optV (aft L κ wi)) ∧ Mod Nn w w' := by
  obtain ⟨rfl, hb, hrow, hrows, hsrt, rfl, rfl, hnd⟩ := h
  have hle := hrow.le
  have HB := Lib.hid (And.intro hb (And.intro hrow (And.intro hrows (And.intro hsrt hez))))
  clear hb hrow hrows hsrt hnd hez
  generalize hXX : leafV b = XX
  have HX := Lib.hid hXX
  unfold leafV at hXX
  subst hXX
  go_enter Try.func53, Try.ntmps53
  go_wp2_with (first
    | (with_reducible change wpList _ _ _ (⟨some 4, Op.box _ _, _, _, _, _⟩ :: _) _ _
       go_must (refine wpList_box_var 23 _ rfl rfl (bv κ).toArray rfl ?_)
       intro w1 b1 m1 z1
       clear z1
       have hs1 : w.heap.size < w1.heap.size := b1.lt
       have H1 := Lib.hid (And.intro m1 b1)
       clear m1 b1)
    | (with_reducible change wpList _ _ _ (⟨some 6, Op.alloc _, _, _, _, _⟩ :: _) _ _
       go_must (refine wpList_alloc_var 28 rfl rfl info_entz ?_)
       intro w2 b2 m2 z2
       clear z2
       have hs2 : w1.heap.size < w2.heap.size := b2.lt
       have H2 := Lib.hid (And.intro (H1.out.1.nn_ m2) (And.intro (H1.out.2.mod m2 (fun f => f)) b2))
       clear m2 b2)
    | (with_reducible change wpList _ _ _ (⟨some 16, _, _, _, _, _⟩ :: _) _ _
       go_must (refine wpList_val rfl (exec_assert_yes (P := Try.prog) _ _ _ _ rfl rfl Try.underlying109) ?_)
       rw [if_pos rfl])
    | (with_reducible change wpList _ _ _ (⟨some 21, _, _, _, _, _⟩ :: _) _ _
       go_must (refine wpList_val rfl (exec_load_row (P := Try.prog) (g := w.heap.size) (cs := (bv κ).toArray) 23 _ rfl rfl H2.out.2.1 Try.underlying23 rfl (size_keyk he)) ?_)))
  refine (place_any (HB.out.1.mod H2.out.1 (fun f => f)) (HB.out.2.1.nn H2.out.1).rd HB.out.2.2.1 rfl he HB.out.2.2.2.2 (by omega) (by rw [List.pairwise_map]; exact HB.out.2.2.2.1)).mono ?_
  rintro r w3 ⟨i, rfl, hpl, m3⟩
  have hil := hpl.le
  rw [List.length_map] at hil
  have hs3 : w2.heap.size ≤ w3.heap.size := m3.size
  have hc0 : w3.cell? ⟨b, 0, none⟩ = some (.slice A L.length c) := (HB.out.1.mod (H2.out.1.nn_ m3) (fun f => f)).cell 0
  have H3 := Lib.hid (And.intro (H2.out.1.nn_ m3) (And.intro (H2.out.2.2.mod m3 (fun f => f)) hpl))
  clear m3 hpl
  have hw1 : IntKind.i64.wrap ((i : Int) + 1) = (i : Int) + 1 := by rw [IntKind.wrap_i64]; omega
  by_cases hc : i < L.length ∧ (L.map keyOf).getD i [] = κ
  · have hi := hc.1
    rw [decide_eq_true hc]
    have HT := Lib.hid (place_there H3.out.2.2 HB.out.2.2.2.1 hi hc.2)
    clear hc
    cases wi
    · -- behind it
      by_cases hj : i + 1 < L.length
      · obtain ⟨ga, hga⟩ := HB.out.2.1.of_ (by omega)
        obtain ⟨g, off, hA, hcell⟩ := row_cells ((HB.out.2.1.nn H3.out.1).rd) HB.out.2.2.1 (List.getElem?_eq_getElem hj) rfl (by omega)
        subst hga
        injection hA with hA; injection hA with e1 e2 _; subst e1; subst e2
        have hr80 := HB.out.2.2.1 L[i + 1] (List.getElem_mem hj)
        have HC := Lib.hid (And.intro hcell hr80)
        clear hcell hr80
        go_wp2_with (first
          | (with_reducible change wpList _ _ _ (⟨some 44, _, _, _, _, _⟩ :: _) _ _
             go_must (refine wpList_val rfl (exec_elem (P := Try.prog) (g := ga) (off := 0) (q := i + 1) 40 (.tmp 42) (.tmp 43) rfl 28 80 uuE sizeE rfl rfl hj) ?_))
          | (with_reducible change wpList _ _ _ (⟨some 45, _, _, _, _, _⟩ :: _) _ _
             go_must (refine wpList_val rfl (exec_load_cells (P := Try.prog) (b := ga) (off := 0 + (i + 1) * 80) (cs := bv L[i + 1]) 28 _ rfl rfl HC.out.1 Try.underlying28 rfl (by rw [bv_len, HC.out.2.1]; exact size_entT)) ?_))
          | (with_reducible change wpList _ _ _ (⟨none, Op.store _ (Operand.tmp 6) _, _, _, _, _⟩ :: _) _ _
             go_must (refine wpList_store_var 28 _ _ rfl rfl w1.heap.size (bv L[i + 1]).toArray _ _ rfl rfl H3.out.2.1 (size_ente HC.out.2.1) (by rw [bv_size, HC.out.2.1]; rfl) (bv_all _) ?_)
             intro w4 b4 m4 z4
             clear z4
             have H4 := Lib.hid (And.intro (H3.out.1.new_ m4 (by omega)) b4)
             clear m4 b4))
        refine bodyPost_ret (results_cell_tmp_row (P := Try.prog) (g := w1.heap.size) rfl _ rfl H4.out.2 Try.underlying28 rfl (size_ente HC.out.2.1)) rfl ?_
        refine ⟨?_, H4.out.1⟩
        have hr : aft L κ false = some L[i + 1] := (HT.out.2.2.2.2).trans (List.getElem?_eq_getElem hj)
        rw [hr]; rfl
      · go_wp2_with (first
          | (with_reducible change wpList _ _ _ (⟨some 76, _, _, _, _, _⟩ :: _) _ _
             go_must (refine wpList_val rfl (exec_zero_ent rfl) ?_))
          | (with_reducible change wpList _ _ _ (⟨none, Op.store _ (Operand.tmp 6) _, _, _, _, _⟩ :: _) _ _
             go_must (refine wpList_store_var 28 _ _ rfl rfl w1.heap.size (bv ze).toArray _ _ rfl rfl H3.out.2.1 (size_ente ze_len) rfl (bv_all _) ?_)
             intro w4 b4 m4 z4
             clear z4
             have H4 := Lib.hid (And.intro (H3.out.1.new_ m4 (by omega)) b4)
             clear m4 b4))
        refine bodyPost_ret (results_cell_tmp_row (P := Try.prog) (g := w1.heap.size) rfl _ rfl H4.out.2 Try.underlying28 rfl (size_ente ze_len)) rfl ?_
        refine ⟨?_, H4.out.1⟩
        have hr : aft L κ false = none := (HT.out.2.2.2.2).trans (List.getElem?_eq_none (by omega))
        rw [hr]; rfl
    · -- it
      by_cases hj : i < L.length
      · obtain ⟨ga, hga⟩ := HB.out.2.1.of_ (by omega)
        obtain ⟨g, off, hA, hcell⟩ := row_cells ((HB.out.2.1.nn H3.out.1).rd) HB.out.2.2.1 (List.getElem?_eq_getElem hj) rfl (by omega)
        subst hga
        injection hA with hA; injection hA with e1 e2 _; subst e1; subst e2
        have hr80 := HB.out.2.2.1 L[i] (List.getElem_mem hj)
        have HC := Lib.hid (And.intro hcell hr80)
        clear hcell hr80
        go_wp2_with (first
          | (with_reducible change wpList _ _ _ (⟨some 44, _, _, _, _, _⟩ :: _) _ _
             go_must (refine wpList_val rfl (exec_elem (P := Try.prog) (g := ga) (off := 0) (q := i) 40 (.tmp 42) (.tmp 43) rfl 28 80 uuE sizeE rfl rfl hj) ?_))
          | (with_reducible change wpList _ _ _ (⟨some 45, _, _, _, _, _⟩ :: _) _ _
             go_must (refine wpList_val rfl (exec_load_cells (P := Try.prog) (b := ga) (off := 0 + (i) * 80) (cs := bv L[i]) 28 _ rfl rfl HC.out.1 Try.underlying28 rfl (by rw [bv_len, HC.out.2.1]; exact size_entT)) ?_))
          | (with_reducible change wpList _ _ _ (⟨none, Op.store _ (Operand.tmp 6) _, _, _, _, _⟩ :: _) _ _
             go_must (refine wpList_store_var 28 _ _ rfl rfl w1.heap.size (bv L[i]).toArray _ _ rfl rfl H3.out.2.1 (size_ente HC.out.2.1) (by rw [bv_size, HC.out.2.1]; rfl) (bv_all _) ?_)
             intro w4 b4 m4 z4
             clear z4
             have H4 := Lib.hid (And.intro (H3.out.1.new_ m4 (by omega)) b4)
             clear m4 b4))
        refine bodyPost_ret (results_cell_tmp_row (P := Try.prog) (g := w1.heap.size) rfl _ rfl H4.out.2 Try.underlying28 rfl (size_ente HC.out.2.1)) rfl ?_
        refine ⟨?_, H4.out.1⟩
        have hr : aft L κ true = some L[i] := (HT.out.2.2.2.1.trans (List.getElem?_eq_getElem hi).symm).trans (List.getElem?_eq_getElem hj)
        rw [hr]; rfl
      · exact absurd hi hj
  · rw [decide_eq_false hc]
    have HT := Lib.hid (place_not H3.out.2.2 HB.out.2.2.2.1 hc)
    clear hc
    by_cases hj : i < L.length
    · obtain ⟨ga, hga⟩ := HB.out.2.1.of_ (by omega)
      obtain ⟨g, off, hA, hcell⟩ := row_cells ((HB.out.2.1.nn H3.out.1).rd) HB.out.2.2.1 (List.getElem?_eq_getElem hj) rfl (by omega)
      subst hga
      injection hA with hA; injection hA with e1 e2 _; subst e1; subst e2
      have hr80 := HB.out.2.2.1 L[i] (List.getElem_mem hj)
      have HC := Lib.hid (And.intro hcell hr80)
      clear hcell hr80
      go_wp2_with (first
        | (with_reducible change wpList _ _ _ (⟨some 44, _, _, _, _, _⟩ :: _) _ _
           go_must (refine wpList_val rfl (exec_elem (P := Try.prog) (g := ga) (off := 0) (q := i) 40 (.tmp 42) (.tmp 43) rfl 28 80 uuE sizeE rfl rfl hj) ?_))
        | (with_reducible change wpList _ _ _ (⟨some 45, _, _, _, _, _⟩ :: _) _ _
           go_must (refine wpList_val rfl (exec_load_cells (P := Try.prog) (b := ga) (off := 0 + (i) * 80) (cs := bv L[i]) 28 _ rfl rfl HC.out.1 Try.underlying28 rfl (by rw [bv_len, HC.out.2.1]; exact size_entT)) ?_))
        | (with_reducible change wpList _ _ _ (⟨none, Op.store _ (Operand.tmp 6) _, _, _, _, _⟩ :: _) _ _
           go_must (refine wpList_store_var 28 _ _ rfl rfl w1.heap.size (bv L[i]).toArray _ _ rfl rfl H3.out.2.1 (size_ente HC.out.2.1) (by rw [bv_size, HC.out.2.1]; rfl) (bv_all _) ?_)
           intro w4 b4 m4 z4
           clear z4
           have H4 := Lib.hid (And.intro (H3.out.1.new_ m4 (by omega)) b4)
           clear m4 b4))
      refine bodyPost_ret (results_cell_tmp_row (P := Try.prog) (g := w1.heap.size) rfl _ rfl H4.out.2 Try.underlying28 rfl (size_ente HC.out.2.1)) rfl ?_
      refine ⟨?_, H4.out.1⟩
      have hr : aft L κ wi = some L[i] := (HT.out.2.2.2 wi).trans (List.getElem?_eq_getElem hj)
      rw [hr]; rfl
    · go_wp2_with (first
        | (with_reducible change wpList _ _ _ (⟨some 76, _, _, _, _, _⟩ :: _) _ _
           go_must (refine wpList_val rfl (exec_zero_ent rfl) ?_))
        | (with_reducible change wpList _ _ _ (⟨none, Op.store _ (Operand.tmp 6) _, _, _, _, _⟩ :: _) _ _
           go_must (refine wpList_store_var 28 _ _ rfl rfl w1.heap.size (bv ze).toArray _ _ rfl rfl H3.out.2.1 (size_ente ze_len) rfl (bv_all _) ?_)
           intro w4 b4 m4 z4
           clear z4
           have H4 := Lib.hid (And.intro (H3.out.1.new_ m4 (by omega)) b4)
           clear m4 b4))
      refine bodyPost_ret (results_cell_tmp_row (P := Try.prog) (g := w1.heap.size) rfl _ rfl H4.out.2 Try.underlying28 rfl (size_ente ze_len)) rfl ?_
      refine ⟨?_, H4.out.1⟩
      have hr : aft L κ wi = none := (HT.out.2.2.2 wi).trans (List.getElem?_eq_none (by omega))
      rw [hr]; rfl
end
end Go.Proofs.Ytkcpmkeckcnobaa
