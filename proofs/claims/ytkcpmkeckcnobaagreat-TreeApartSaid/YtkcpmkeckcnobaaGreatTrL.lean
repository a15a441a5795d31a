/- Own lemmas of several kinds, put together: Tr38, Tr39. -/
import Derived.Test.YtkcpmkeckcnobaaGreatTr33
import Derived.Test.YtkcpmkeckcnobaaGreatBgN
/- peatbanklaw16.TreeApart: the nodes told twice lie apart. -/
namespace Go.Proofs.YtkcpmkeckcnobaaGreat
open Go.RowKit

/-- nodes are small -/
theorem nodes_small : ∀ (d : Nat) (L : List (List Nat)) (k b : Nat) (Ms : List PN) (i : Nat), NodesIs d L k b Ms i → k ≤ hiB d → ∀ n ∈ Ms, n.ents.length ≤ 20 ∧ n.keys.length ≤ 20 ∧ n.kids.length ≤ 20
  | 0, L, k, b, Ms, i, ⟨h, _, hk⟩, hh, n, hn => by
    subst h
    rw [List.mem_singleton] at hn; subst hn
    simp only [hiB] at hh
    exact ⟨by show L.length ≤ 20; omega, Nat.zero_le _, Nat.zero_le _⟩
  | d + 1, L, k, b, Ms, i, ⟨ks, qs, h1, _, h3, h4, h5, _, _, _, h9⟩, hh, n, hn => by
    subst h1
    simp only [hiB] at hh
    rcases List.mem_append.1 hn with hn | hn
    · obtain ⟨q, hq, hn⟩ := List.mem_flatMap.1 hn
      obtain ⟨j, hj⟩ := List.mem_iff_getElem?.1 hq
      obtain ⟨ha, _, hb⟩ := h9 j q hj
      exact nodes_small d _ _ _ _ _ ha hb n hn
    · rw [List.mem_singleton] at hn; subst hn
      exact ⟨Nat.zero_le _, by show ks.length ≤ 20; omega, by show (qs.map _).length ≤ 20; rw [List.length_map]; omega⟩
theorem nodesT_small {L : List (List Nat)} {Ms : List PN} {i : Nat} (h : NodesT L Ms i) : ∀ n ∈ Ms, n.ents.length ≤ 20 ∧ n.keys.length ≤ 20 ∧ n.kids.length ≤ 20 := by
  obtain ⟨d, k, h, hk, _⟩ := h
  exact nodes_small d _ _ _ _ _ h hk
/-- a node's rows as rows handed out -/
def nr (t : TN) : NRow := ⟨t.n.leaf, ⟨t.eA, t.n.ents.length, t.ec⟩, ⟨t.kA, t.n.keys.length, t.kc⟩, ⟨t.cA, t.n.kids.length, t.cc⟩⟩
theorem nr_cells (t : TN) : (nr t).cells = t.cells := rfl
theorem flat_nr (Us : List TN) : flat NRow.cells (Us.map nr) = flat TN.cells Us := by
  unfold flat
  rw [List.flatMap_map]
  rfl
section
variable {w : World} {base : Nat} {Us : List TN}
theorem rows_of_TN {e : TypeId} {s : Nat} (f : TN → Row) (y : TN → List Value) (h : ∀ t ∈ Us, w.ownsRow base e s (f t).v (f t).n (y t)) : RowsY w e s (Us.map f) (fun j => ((Us[j]?).map y).getD []) := fun j r hj => by
  rw [List.getElem?_map, Option.map_eq_some_iff] at hj
  obtain ⟨t, ht, rfl⟩ := hj
  show w.ownsRow 0 e s (f t).v (f t).n (((Us[j]?).map y).getD [])
  rw [ht]
  exact own_base (h t (List.mem_of_getElem? ht)) (fun _ _ => Nat.zero_le _)
theorem apt_of_TN (f : TN → Row) (hf : ∀ t g, (f t).v.ownBlock = some g → t.rows g) (h : Us.Pairwise TN.Far) : AptR (Us.map f) := fun i j r q g hi hj hg hq => by
  rw [List.getElem?_map, Option.map_eq_some_iff] at hi hj
  obtain ⟨t, ht, rfl⟩ := hi
  obtain ⟨u, hu, rfl⟩ := hj
  refine Classical.byContradiction fun hne => ?_
  have key : ∀ (a b : Nat) (x y : TN), Us[a]? = some x → Us[b]? = some y → a < b → x.Far y := fun a b x y hx hy hab => by
    obtain ⟨h1, rfl⟩ := List.getElem?_eq_some_iff.1 hx
    obtain ⟨h2, rfl⟩ := List.getElem?_eq_some_iff.1 hy
    exact List.pairwise_iff_getElem.1 h a b h1 h2 hab
  rcases Nat.lt_or_ge i j with hij | hij
  · exact key i j t u ht hu hij g (hf t g hg) (hf u g hq)
  · exact key j i u t hu ht (by omega) g (hf u g hq) (hf t g hg)
end
def tw2 {α : Type} (a b : List α) : Nat → List α := fun j => match j with | 0 => a | 1 => b | _ => []
theorem ns_two (a b : List NRow) : nsUp (tw2 a b) 2 = a ++ b := by
  show a ++ (b ++ []) = a ++ b
  rw [List.append_nil]
theorem ns_one (a b : List NRow) : nsUp (tw2 a b) 1 = a := by
  show a ++ [] = a
  rw [List.append_nil]
section
variable {w : World} {b1 b2 ia ib B cc : Nat} {La Lb : List (List Nat)} {va vb : Value} {Us Vs : List TN}
theorem all_small {L : List (List Nat)} {i : Nat} {v : Value} {b : Nat} (h : NodesV w b L v i Us) : ∀ t ∈ Us, t.n.ents.length ≤ 20 ∧ t.n.keys.length ≤ 20 ∧ t.n.kids.length ≤ 20 := fun t ht => nodesT_small h.is_ _ (List.mem_map_of_mem ht)
theorem nodesApart (hB : Blk w B 22 #[va, vb]) (ha : NodesV w b1 La va ia Us) (hb : NodesV w b2 Lb vb ib Vs) (h12 : b1 ≤ b2) (h1 : ∀ g, va.ownBlock = some g → g < b2) (h2 : ∀ t ∈ Us, ∀ g, t.rows g → g < b2) (hla : La.length ≤ 400) (hlb : Lb.length ≤ 400) :
    Calls Tryz.prog 30 #[.slice (some ⟨B, 0, none⟩) 2 cc] w fun e w' => e = .returned (.bool true) ∧ Mod (fun g => b1 ≤ g) w w' := by
  have hUl := nodesT_len ha.is_
  have hVl := nodesT_len hb.is_
  rw [List.length_map] at hUl hVl
  obtain ⟨Aa, ca, rfl, _, hga⟩ := own_form ha.row
  obtain ⟨Ab, cb, rfl, _, hgb⟩ := own_form hb.row
  have hr : Rd w (some ⟨B, 0, none⟩) 2 (([⟨Aa, Us.length, ca⟩, ⟨Ab, Vs.length, cb⟩] : List Row).map Row.v) := Rd.of_blk0 hB rfl
  have hall : ∀ t ∈ Us ++ Vs, t.n.ents.length ≤ 20 ∧ t.n.keys.length ≤ 20 ∧ t.n.kids.length ≤ 20 := fun t ht => (List.mem_append.1 ht).elim (all_small ha t) (all_small hb t)
  have hbase : ∀ t ∈ Us ++ Vs, ∀ g, t.rows g → b1 ≤ g := fun t ht g hg => (List.mem_append.1 ht).elim (fun ht => (ha.ok t ht).b g hg) (fun ht => Nat.le_trans h12 ((hb.ok t ht).b g hg))
  have hap : (Us ++ Vs).Pairwise TN.Far := List.pairwise_append.2 ⟨ha.ap, hb.ap, fun x hx y hy g hg hg' => by
    have := h2 x hx g hg
    have := (hb.ok y hy).b g hg'
    omega⟩
  have hE : ∀ t ∈ Us ++ Vs, w.ownsRow 0 43 80 (nr t).e.v (nr t).e.n (bv t.n.ents.flatten) := fun t ht => (List.mem_append.1 ht).elim (fun ht => own_base (ha.ok t ht).e (fun _ _ => Nat.zero_le _)) (fun ht => own_base (hb.ok t ht).e (fun _ _ => Nat.zero_le _))
  have hK : ∀ t ∈ Us ++ Vs, w.ownsRow 0 40 40 (nr t).k.v (nr t).k.n (bv t.n.keys.flatten) := fun t ht => (List.mem_append.1 ht).elim (fun ht => own_base (ha.ok t ht).k (fun _ _ => Nat.zero_le _)) (fun ht => own_base (hb.ok t ht).k (fun _ _ => Nat.zero_le _))
  have hC : ∀ t ∈ Us ++ Vs, w.ownsRow 0 3 1 (nr t).c.v (nr t).c.n (iv t.n.kids) := fun t ht => (List.mem_append.1 ht).elim (fun ht => own_base (ha.ok t ht).c (fun _ _ => Nat.zero_le _)) (fun ht => own_base (hb.ok t ht).c (fun _ _ => Nat.zero_le _))
  have hN : RowsY w 32 4 [⟨Aa, Us.length, ca⟩, ⟨Ab, Vs.length, cb⟩] (fun j => flat NRow.cells (tw2 (Us.map nr) (Vs.map nr) j)) := fun j r hj => by
    match j, hj with
    | 0, hj => injection hj with hj; subst hj; show w.ownsRow 0 32 4 (.slice Aa Us.length ca) Us.length (flat NRow.cells (Us.map nr)); rw [flat_nr]; exact own_base ha.row (fun _ _ => Nat.zero_le _)
    | 1, hj => injection hj with hj; subst hj; show w.ownsRow 0 32 4 (.slice Ab Vs.length cb) Vs.length (flat NRow.cells (Vs.map nr)); rw [flat_nr]; exact own_base hb.row (fun _ _ => Nat.zero_le _)
    | j + 2, hj => simp at hj
  have hAN : AptR [⟨Aa, Us.length, ca⟩, ⟨Ab, Vs.length, cb⟩] := by
    have far : ∀ g, (Value.slice Aa Us.length ca).ownBlock = some g → (Value.slice Ab Vs.length cb).ownBlock = some g → False := fun g hg hq => by
      have := h1 g hg
      have := (hgb g (own_of hq)).1
      omega
    intro i j r q g hi hj hg hq
    match i, j, hi, hj with
    | 0, 0, _, _ => rfl
    | 1, 1, _, _ => rfl
    | 0, 1, hi, hj => injection hi with hi; injection hj with hj; subst hi; subst hj; exact (far g hg hq).elim
    | 1, 0, hi, hj => injection hi with hi; injection hj with hj; subst hi; subst hj; exact (far g hq hg).elim
    | i + 2, _, hi, _ => simp at hi
    | _, j + 2, _, hj => simp at hj
  have e2 : nsUp (tw2 (Us.map nr) (Vs.map nr)) 2 = (Us ++ Vs).map nr := by rw [ns_two, List.map_append]
  have ec : ((Us ++ Vs).map nr).map (·.c) = (Us ++ Vs).map (fun t => (nr t).c) := List.map_map ..
  have ek : ((Us ++ Vs).map nr).map (·.k) = (Us ++ Vs).map (fun t => (nr t).k) := List.map_map ..
  have ee : ((Us ++ Vs).map nr).map (·.e) = (Us ++ Vs).map (fun t => (nr t).e) := List.map_map ..
  have small : ∀ (f : TN → Row), (∀ t ∈ Us ++ Vs, (f t).n ≤ 20) → ∀ (j : Nat) (r : Row), ((Us ++ Vs).map f)[j]? = some r → r.n ≤ 1099511627776 := fun f hf j r hj => by
    rw [List.getElem?_map, Option.map_eq_some_iff] at hj
    obtain ⟨t, ht, rfl⟩ := hj
    have := hf t (List.mem_of_getElem? ht)
    omega
  have key := apartN_any (c0 := cc) (NS := tw2 (Us.map nr) (Vs.map nr)) hr hN hAN
    (by rw [e2, ec]; exact rows_of_TN (fun t => (nr t).c) (fun t => iv t.n.kids) hC) (by rw [e2, ek]; exact rows_of_TN (fun t => (nr t).k) (fun t => bv t.n.keys.flatten) hK) (by rw [e2, ee]; exact rows_of_TN (fun t => (nr t).e) (fun t => bv t.n.ents.flatten) hE)
    (by rw [e2, ec]; exact apt_of_TN (fun t => (nr t).c) (fun t g hg => .inr (.inr (own_of hg))) hap) (by rw [e2, ek]; exact apt_of_TN (fun t => (nr t).k) (fun t g hg => .inr (.inl (own_of hg))) hap) (by rw [e2, ee]; exact apt_of_TN (fun t => (nr t).e) (fun t g hg => .inl (own_of hg)) hap)
    (by omega) (fun k hk => by
      match k, hk with
      | 0, _ => exact Nat.zero_le _
      | 1, _ => rw [ns_one, List.length_map]; omega
      | 2, _ => rw [e2, List.length_map, List.length_append]; omega
      | k + 3, hk => omega)
    (fun j r hj => by
      match j, hj with
      | 0, hj => injection hj with hj; subst hj; exact ⟨List.length_map .., by show Us.length ≤ 10000; omega⟩
      | 1, hj => injection hj with hj; subst hj; exact ⟨List.length_map .., by show Vs.length ≤ 10000; omega⟩
      | j + 2, hj => simp at hj)
    (by rw [e2, ec]; exact small _ (fun t ht => (hall t ht).2.2)) (by rw [e2, ek]; exact small _ (fun t ht => (hall t ht).2.1)) (by rw [e2, ee]; exact small _ (fun t ht => (hall t ht).1))
  rw [e2, ec, ek, ee] at key
  refine key.mono fun e w' ⟨h1', hm⟩ => ⟨h1', hm.mono (fun g _ hg => ?_)⟩
  have bk : ∀ (f : TN → Row), (∀ t g, (f t).v.ownBlock = some g → t.rows g) → Bks ((Us ++ Vs).map f) g → b1 ≤ g := fun f hf ⟨j, r, hj, hg⟩ => by
    rw [List.getElem?_map, Option.map_eq_some_iff] at hj
    obtain ⟨t, ht, rfl⟩ := hj
    exact hbase t (List.mem_of_getElem? ht) g (hf t g hg)
  rcases hg with hg | hg | hg | hg
  · exact bk (fun t => (nr t).c) (fun t g hg => .inr (.inr (own_of hg))) hg
  · exact bk (fun t => (nr t).k) (fun t g hg => .inr (.inl (own_of hg))) hg
  · exact bk (fun t => (nr t).e) (fun t g hg => .inl (own_of hg)) hg
  · obtain ⟨j, r, hj, hg⟩ := hg
    match j, hj with
    | 0, hj => injection hj with hj; subst hj; exact (hga g (own_of hg)).1
    | 1, hj => injection hj with hj; subst hj; exact Nat.le_trans h12 (hgb g (own_of hg)).1
    | j + 2, hj => simp at hj
end
end Go.Proofs.YtkcpmkeckcnobaaGreat

/- peatbanklaw16.TreeApart: the walk. -/
namespace Go.Proofs.YtkcpmkeckcnobaaGreat
open Go.RowKit

theorem exec_lists2 {w : World} {o : Oper} {a : Act} {x y : Operand} {va vb : Value} (ho : o.op = .buildSlice 67 2 #[(0, x), (1, y)]) (hx : a.eval x = va) (hy : a.eval y = vb) (h1 : ∃ A n c, va = .slice A n c) (h2 : ∃ A n c, vb = .slice A n c) :
    (execOp a.eval o).run Tryz.prog w = .ok (.value (.slice (some ⟨w.heap.size, 0, none⟩) 2 2)) (w.alloc (.cells #[va, vb] 22)) := by
  obtain ⟨A1, n1, c1, rfl⟩ := h1
  obtain ⟨A2, n2, c2, rfl⟩ := h2
  exact exec_bsliceN (P := Tryz.prog) (w := w) (a := a) 67 22 2 _ [.slice A1 n1 c1, .slice A2 n2 c2] ho Tryz.underlying67 info_slNt (by omega) (by omega) (by simp [hx, hy, List.zipIdx]) rfl (by
    intro v hv
    simp only [List.mem_cons, List.not_mem_nil, or_false] at hv
    rcases hv with rfl | rfl <;> rfl)
section
variable {w : World} {A : Option Addr} {n c : Nat} {zs : List Int}
set_option maxRecDepth 100000 in
set_option maxHeartbeats 6400000 in
theorem treeapart_any (hr : IntsAt w A n zs) : Calls Tryz.prog 6 #[.slice A n c] w fun r w' => r = .returned (.bool true) ∧ Mod Nn w w' := by
  have hzl := hr.len
  have HA := Lib.hid hr
  have HZ := Lib.hid hzl
  clear hr hzl
  go_enter Tryz.func6, Tryz.ntmps6
  go_wp2_with fail
  refine (awake16 w).mono ?_
  rintro r w0 ⟨rfl, m0⟩
  have H0 := Lib.hid m0
  clear m0
  by_cases hbig : 150 < n
  · have hbig' : (150 : Int) < n := by omega
    go_wp2
    go_ret
    exact ⟨rfl, H0.out⟩
  have hsm : ¬ (150 : Int) < n := by omega
  go_wp2_with fail
  refine (tnew_any w0).mono ?_
  rintro r w1 ⟨b, G1, rfl, ht1, hG1, m1⟩
  have hs0 : w.heap.size ≤ w0.heap.size := H0.out.size
  have H1 := Lib.hid (show TrAt w1 b [] G1 ∧ (∀ g ∈ G1, w.heap.size ≤ g) ∧ Mod Nn w w1 from ⟨ht1, fun g hg => by have := hG1 g hg; omega, H0.out.nn_ m1⟩)
  clear ht1 hG1 m1
  go_wp2_with fail
  -- zzA
  go_loopw [4] (fun i wr => ∃ (j : Nat) (G : List Nat), j ≤ n ∧ i = .int .i64 j ∧ Hid (TrAt wr b (setsL [] ((zs0 zs).take j)) G ∧ (∀ g ∈ G, w.heap.size ≤ g) ∧ Mod Nn w wr ∧ (setsL [] ((zs0 zs).take j)).length ≤ j)) (fun i _ => n - (intOf i).toNat)
  case atStart => exact ⟨0, G1, by omega, rfl, Lib.hid ⟨H1.out.1, H1.out.2.1, H1.out.2.2, Nat.le_refl _⟩⟩
  case round =>
    obtain ⟨j, G, hj, rfl, HR⟩ := hrel
    have hsr : w.heap.size ≤ wr.heap.size := HR.out.2.2.1.size
    by_cases hjn : j < n
    · have hj' : (j : Int) < n := by omega
      obtain ⟨z, hz⟩ := ints_get HA.out.len hjn
      have hcz := (HA.out.nn HR.out.2.2.1)
      obtain ⟨gA, oA, rfl, hcA⟩ := hcz.at_ (by omega)
      have hcA := hcA _ _ hz
      have HO := Lib.hid (zs0_at hz)
      clear hz hcz
      go_wp2_with (first
        | (with_reducible change wpList _ _ _ (⟨some 24, _, _, _, _, _⟩ :: _) _ _
           go_must (refine wpList_val rfl (exec_elem (P := Tryz.prog) (g := gA) (off := oA) (q := j) 30 _ _ rfl 3 1 uuI size_int rfl rfl (by omega)) ?_))
        | (with_reducible change wpList _ _ _ (⟨some 25, _, _, _, _, _⟩ :: _) _ _
           go_must (refine wpList_val rfl (exec_load1 (P := Tryz.prog) (v := .int .i64 z) (ad := ⟨gA, oA + j, none⟩) 3 _ rfl (by rw [Nat.mul_one]; rfl) hcA Tryz.underlying3 rfl) ?_))
        | (with_reducible change wpList _ _ _ (⟨some 26, _, _, _, _, _⟩ :: _) _ _
           go_must (refine wpList_val rfl (exec_deed1 rfl rfl) ?_)))
      clear hcA
      refine (entry16_any wr 0 z 0 (by omega)).mono ?_
      rintro r w4 ⟨rfl, m4⟩
      have H4 := Lib.hid m4
      have hs4 : wr.heap.size ≤ w4.heap.size := m4.size
      clear m4
      go_wp2_with fail
      refine (tset_any (HR.out.1.nn H4.out) (en_len _ _) (en_lt (pk_spec z).2 (by omega)) (by have := HR.out.2.2.2; omega)).mono ?_
      rintro r w5 ⟨rfl, G5, ht5, hG5, m5⟩
      rw [← setsL_take HO.out] at ht5
      have hl5 : (setsL [] ((zs0 zs).take (j + 1))).length ≤ j + 1 := by
        have := setsL_len ((zs0 zs).take (j + 1)) (L := []) List.Pairwise.nil
        rw [List.length_take] at this
        simp only [List.length_nil] at this
        omega
      have H5 := Lib.hid (show TrAt w5 b (setsL [] ((zs0 zs).take (j + 1))) G5 ∧ (∀ g ∈ G5, w.heap.size ≤ g) ∧ Mod Nn w w5 ∧ (setsL [] ((zs0 zs).take (j + 1))).length ≤ j + 1 from ⟨ht5, fun g hg => (hG5 g hg).elim (HR.out.2.1 g) (fun h => by omega), (HR.out.2.2.1.nn_ H4.out).then_ m5 (fun g hg h => by have := HR.out.2.1 g h; omega), hl5⟩)
      clear ht5 hG5 m5 hl5
      go_wp2
      exact ⟨⟨j + 1, G5, by omega, by go_num, H5⟩, by simp [intOf]; omega⟩
    · have hlen : (setsL [] ((zs0 zs).take j)).length ≤ 400 := by have := HR.out.2.2.2; omega
      generalize setsL [] ((zs0 zs).take j) = L at *
      have HL := Lib.hid hlen
      clear hlen
      go_wp2_with fail
      refine (tnodes_any HR.out.1 (by have := HL.out; omega)).mono ?_
      rintro r w5 ⟨va, ia, Us, rfl, hNa, m5⟩
      obtain ⟨Aa, ca, eva, _, _⟩ := own_form hNa.row
      subst eva
      have hga : ∀ g, (Value.slice Aa Us.length ca).ownBlock = some g → g < w5.heap.size := fun g hg => by
        obtain ⟨_, _, _, _, hb, _⟩ := own_blk_eq hNa.row hg
        exact hb.lt
      have H5 := Lib.hid (And.intro (HR.out.1.nn m5) (And.intro (HR.out.2.2.1.nn_ m5) (And.intro hNa (And.intro hga (fun t ht g hg => (hNa.ok t ht).lt g hg : ∀ t ∈ Us, ∀ g, t.rows g → g < w5.heap.size)))))
      have hs5 : wr.heap.size ≤ w5.heap.size := m5.size
      clear hNa m5 hga
      go_wp2_with fail
      refine (tnodes_any H5.out.1 (by have := HL.out; omega)).mono ?_
      rintro r w6 ⟨vb, ib, Vs, rfl, hNb, m6⟩
      obtain ⟨Ab, cb, evb, _, _⟩ := own_form hNb.row
      subst evb
      have hs6 : w5.heap.size ≤ w6.heap.size := m6.size
      have H6 := Lib.hid (And.intro (H5.out.2.1.nn_ m6) (And.intro (H5.out.2.2.1.mod m6 (fun _ _ f => f)) hNb))
      clear hNb m6
      go_wp2_with (first
        | (with_reducible change wpList _ _ _ (⟨some 41, _, _, _, _, _⟩ :: _) _ _
           go_must (refine wpList_val rfl (exec_lists2 (va := .slice Aa Us.length ca) (vb := .slice Ab Vs.length cb) rfl rfl rfl ⟨_, _, _, rfl⟩ ⟨_, _, _, rfl⟩) ?_)
           have b7 : Blk (w6.alloc (.cells #[.slice Aa Us.length ca, .slice Ab Vs.length cb] 22)) w6.heap.size 22 #[.slice Aa Us.length ca, .slice Ab Vs.length cb] := Blk.new _ _ _
           have m7 : Mod Nn w6 (w6.alloc (.cells #[.slice Aa Us.length ca, .slice Ab Vs.length cb] 22)) := (Mod.refl _ _).alloc _
           generalize w6.alloc (.cells #[.slice Aa Us.length ca, .slice Ab Vs.length cb] 22) = w7 at *
           have H7 := Lib.hid (And.intro (H6.out.1.nn_ m7) (And.intro (H6.out.2.1.mod m7 (fun _ _ f => f)) (And.intro (H6.out.2.2.mod m7 (fun _ _ f => f)) b7)))
           clear b7 m7))
      refine (nodesApart H7.out.2.2.2 H7.out.2.1 H7.out.2.2.1 hs5 H5.out.2.2.2.1 H5.out.2.2.2.2 HL.out HL.out).mono ?_
      rintro r w8 ⟨rfl, m8⟩
      have H8 := Lib.hid (H7.out.1.then_ m8 (fun g hg h => by have h : wr.heap.size ≤ g := h; omega))
      clear m8
      go_wp2
      go_ret
      exact ⟨rfl, H8.out⟩
end
end Go.Proofs.YtkcpmkeckcnobaaGreat
