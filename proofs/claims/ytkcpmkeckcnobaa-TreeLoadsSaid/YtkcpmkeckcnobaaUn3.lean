/- peatbankref16.Load of any nodes. -/
import Derived.Test.YtkcpmkeckcnobaaUn2
import Derived.Test.YtkcpmkeckcnobaaRt2
namespace Go.Proofs.Ytkcpmkeckcnobaa
open Go.RowKit

theorem infoB1 : (Try.prog.info? 4).map (fun i => (i.zero, i.size, i.bytes)) = some (some (.bool false), 1, 1) := by kernel_rfl
theorem built_reader (A : Option Addr) (n c : Nat) (B : Option Addr) (m d : Nat) : Try.prog.built 117 [(0, .slice A n c), (1, .slice B m d)] = some #[.slice A n c, .slice B m d, .bool false] := by kernel_rfl
theorem built_rtree (A : Option Addr) (n c : Nat) : Try.prog.built 83 [(0, .slice A n c)] = some #[.slice A n c] := by kernel_rfl
section
variable {w : World} {o : Oper} {a : Act} {x y : Operand}
theorem exec_reader {A B : Option Addr} {n c m d : Nat} (ho : o.op = .build 117 #[(0, x), (1, y)]) (hx : a.eval x = .slice A n c) (hy : a.eval y = .slice B m d) : (execOp a.eval o).run Try.prog w = .ok (.value (.agg #[.slice A n c, .slice B m d, .bool false])) w := by
  have hr := run_build (P := Try.prog) w 117 _ _ (built_reader A n c B m d)
  simp only [execOp, ho]
  simp [hx, hy, hr, Result.andThen]
theorem exec_rtree {A : Option Addr} {n c : Nat} (ho : o.op = .build 83 #[(0, x)]) (hx : a.eval x = .slice A n c) : (execOp a.eval o).run Try.prog w = .ok (.value (.agg #[.slice A n c])) w := by
  have hr := run_build (P := Try.prog) w 83 _ _ (built_rtree A n c)
  simp only [execOp, ho]
  simp [hx, hr, Result.andThen]
end
/-- what any nodes make -/
def pickM : UR → Option (List (List Nat))
  | none => none
  | some (L, _, σ) => if σ.all id then some L else none
def loadM (Ns : List Nd) (root : Int) : Option (List (List Nat)) := pickM (undM Ns (Ns.length + 1) root true (List.replicate Ns.length false))
def LoadP (w : World) (m : Option (List (List Nat))) (r : Ending) (w' : World) : Prop := Mod Nn w w' ∧ (match m with
  | none => r = .returned (.tuple #[.pointer none, .int .i64 4])
  | some L => ∃ b A c, r = .returned (.tuple #[.pointer (some ⟨b, 0, none⟩), .int .i64 0]) ∧ Blk w' b 83 #[.slice A L.length c] ∧ RdC w' A L.length 80 (bv L.flatten) ∧ Rows 80 L ∧ L.length ≤ c ∧ w.heap.size ≤ b ∧ (∀ g, Of A g → w.heap.size ≤ g ∧ g < w'.heap.size))
theorem all_take {σ : List Bool} {j : Nat} {b : Bool} (h : σ[j]? = some b) : (σ.take (j + 1)).all id = ((σ.take j).all id && b) := by
  rw [List.take_add_one, h]
  simp
section
variable {w : World} {n c : Nat} {A : Option Addr} {Xs : List NX} {root : Int}
set_option maxRecDepth 100000 in
set_option maxHeartbeats 6400000 in
theorem load16_any (hN : NsAt w A n Xs) (hn : n ≤ 1000) : Calls Try.prog 34 #[.slice A n c, .int .i64 root] w (LoadP w (loadM (Xs.map (·.N)) root)) := by
  have hNl : (Xs.map (·.N)).length = n := by rw [List.length_map]; exact hN.len
  obtain ⟨res, hres⟩ : ∃ res, undM (Xs.map (·.N)) (n + 1) root true (List.replicate n false) = res := ⟨_, rfl⟩
  obtain ⟨lm, hlm⟩ : ∃ lm, loadM (Xs.map (·.N)) root = lm := ⟨_, rfl⟩
  have hlm2 : lm = pickM res := by
    rw [← hlm, ← hres]; unfold loadM; rw [hNl]
  have hrows : ∀ L d σ, res = some (L, d, σ) → Kept (List.replicate n false) L σ := fun L d σ h => undM_kept (fun N hN' => by obtain ⟨y, hy, rfl⟩ := List.mem_map.1 hN'; exact (hN.nd y hy).ok) (n + 1) root true _ L d σ (hres.trans h)
  rw [hlm]
  have HN := Lib.hid (And.intro hN (And.intro hres (And.intro hlm2 hrows)))
  clear hN hres hlm hlm2 hNl hrows
  go_enter Try.func34, Try.ntmps34
  go_wp2_with (first
    | (with_reducible change wpList _ _ _ (⟨some 13, _, _, _, _, _⟩ :: _) _ _
       go_must (refine wpList_val rfl (exec_make1 (P := Try.prog) 80 _ _ rfl 4 (.bool false) 1 uuB infoB1 rfl n n rfl rfl (Nat.le_refl _) (by omega) (by omega)) ?_)
       have b1 : Blk (w.alloc (.cells (Array.replicate n (.bool false)) 4)) w.heap.size 4 (Array.replicate n (.bool false)) := Blk.new _ _ _
       have m1 : Mod Nn w (w.alloc (.cells (Array.replicate n (.bool false)) 4)) := (Mod.refl _ _).alloc _
       generalize w.alloc (.cells (Array.replicate n (.bool false)) 4) = w1 at *
       have H1 := Lib.hid (And.intro m1 b1)
       have hs1 : w.heap.size < w1.heap.size := b1.lt
       clear m1 b1)
    | (with_reducible change wpList _ _ _ (⟨some 14, _, _, _, _, _⟩ :: _) _ _
       go_must (refine wpList_val rfl (exec_reader (A := A) (n := n) (c := c) (B := some ⟨w.heap.size, 0, none⟩) (m := n) (d := n) rfl rfl rfl) ?_))
    | (with_reducible change wpList _ _ _ (⟨some 15, Op.box _ _, _, _, _, _⟩ :: _) _ _
       go_must (refine wpList_box_var 117 _ rfl rfl #[.slice A n c, .slice (some ⟨w.heap.size, 0, none⟩) n n, .bool false] rfl ?_)
       intro w2 b2 m2 z2
       clear z2
       have hs2 : w1.heap.size < w2.heap.size := b2.lt
       have H2 := Lib.hid (And.intro (H1.out.1.nn_ m2) (And.intro (H1.out.2.mod m2 (fun f => f)) b2))
       clear m2 b2))
  -- zzA
  have hR : Rdr w2 w1.heap.size w.heap.size A n c n false (List.replicate n false) := ⟨H2.out.2.2, by
    have := H2.out.2.1
    rwa [show (Array.replicate n (Value.bool false)) = ((List.replicate n false).map Value.bool).toArray from by rw [List.map_replicate, List.toArray_replicate]] at this, List.length_replicate ..⟩
  refine (under_any HN.out.1 (by omega) (Nat.le_refl _) (by omega) hn (n + 1) w2 root true (List.replicate n false) (by omega) H2.out.1 hR (by have := unseen_le (List.replicate n false); rw [List.length_replicate] at this; omega)).mono ?_
  rintro r w3 ⟨m3, hr3⟩
  rw [HN.out.2.1] at hr3
  obtain ⟨v7, d7, b2, σ2, rfl, hR3, hcase⟩ : ∃ (v7 : Value) (d7 : Int) (b2 : Bool) (σ2 : List Bool), r = .returned (.tuple #[v7, .int .i64 d7]) ∧ Rdr w3 w1.heap.size w.heap.size A n c n b2 σ2 ∧ ((b2 = true ∧ res = none) ∨ ∃ L d B cB, b2 = false ∧ res = some (L, d, σ2) ∧ v7 = .slice B L.length cB ∧ RdC w3 B L.length 80 (bv L.flatten)) := by
    rcases res with _ | ⟨L, d, σ⟩
    · obtain ⟨rfl, σb, hb⟩ := hr3
      exact ⟨_, 0, true, σb, rfl, hb, .inl ⟨rfl, rfl⟩⟩
    · obtain ⟨B, cB, rfl, hrd, hb⟩ := hr3
      exact ⟨_, d, false, σ, rfl, hb, .inr ⟨L, d, B, cB, rfl, rfl, rfl, hrd⟩⟩
  have hs3 : w2.heap.size ≤ w3.heap.size := m3.size
  have H3 := Lib.hid (And.intro hR3 (And.intro hcase (H2.out.1.then_ m3 (fun g hg e => by rcases e with rfl | rfl <;> omega))))
  clear hR3 hcase m3 hr3 hR
  obtain ⟨rb, hrb⟩ : ∃ rb, w1.heap.size = rb := ⟨_, rfl⟩
  obtain ⟨gs, hgs⟩ : ∃ gs, w.heap.size = gs := ⟨_, rfl⟩
  have hne : rb ≠ gs := by omega
  have hrbw : w.heap.size ≤ rb := by omega
  have hgsw : w.heap.size ≤ gs := by omega
  rw [hrb, hgs] at H3
  rw [hrb]
  go_wp2_with fail
  -- zzL
  go_loopw [9] (fun i wr => ∃ (j : Nat) (bd : Bool), j ≤ n ∧ i = .int .i64 j ∧ Hid (Rdr wr rb gs A n c n bd σ2 ∧ bd = (b2 || !(σ2.take j).all id) ∧ Mod (At rb) w3 wr ∧ (bd = false → Mod Nn w3 wr))) (fun i _ => n - (intOf i).toNat)
  case atStart => exact ⟨0, b2, Nat.zero_le _, rfl, Lib.hid ⟨H3.out.1, by simp, Mod.refl _ _, fun _ => Mod.refl _ _⟩⟩
  case round =>
    obtain ⟨j, bd, hjn, rfl, HR⟩ := hrel
    obtain ⟨wo, rfl⟩ : ∃ x : World, x = wr := ⟨_, rfl⟩
    by_cases hj : j < n
    · have hj' : (j : Int) < n := by omega
      obtain ⟨sb, hsb⟩ : ∃ sb, σ2[j]? = some sb := ⟨_, List.getElem?_eq_getElem (by rw [HR.out.1.len]; exact hj)⟩
      have hcs : wo.cell? ⟨gs, j, none⟩ = some (.bool sb) := (HR.out.1.row.cell j).trans (by simp [hsb])
      have hall := all_take hsb
      have HALL := Lib.hid hall
      clear hsb hall
      cases sb
      · go_wp2_with (first
          | (with_reducible change wpList _ _ _ (⟨some 31, _, _, _, _, _⟩ :: _) _ _
             go_must (refine wpList_val rfl (exec_load1 (P := Try.prog) (v := .slice (some ⟨gs, 0, none⟩) n n) (ad := ⟨rb, 1, none⟩) 80 _ rfl rfl (HR.out.1.blk.cell 1) Try.underlying80 rfl) ?_))
          | (with_reducible change wpList _ _ _ (⟨some 33, _, _, _, _, _⟩ :: _) _ _
             go_must (refine wpList_val rfl (exec_elem (P := Try.prog) (g := gs) (off := 0) (q := j) 80 _ _ rfl 4 1 uuB size_boolu rfl rfl hj) ?_)
             rw [show 0 + j * 1 = j from by omega])
          | (with_reducible change wpList _ _ _ (⟨some 34, _, _, _, _, _⟩ :: _) _ _
             go_must (refine wpList_val rfl (exec_load1 (P := Try.prog) (v := .bool false) (ad := ⟨gs, j, none⟩) 4 _ rfl rfl hcs Try.underlying4 rfl) ?_))
          | (with_reducible change wpList _ _ _ (⟨none, Op.store _ (Operand.tmp 38) _, _, _, _, _⟩ :: _) _ _
             go_must (refine wpList_unit rfl (exec_store1 (P := Try.prog) (ad := ⟨rb, 2, none⟩) (v := .bool true) (u := .bool bd) 4 _ _ rfl rfl rfl (HR.out.1.blk.cell 2) (HR.out.1.blk.frozen 2) rfl rfl rfl size_boolu) ?_)
             have hb9 := Rdr.setBad HR.out.1 hne
             have m9 : Mod (At rb) wo (wo.setCell ⟨rb, 2, none⟩ (.bool true)) := Mod.cellAt _ _ _ _
             generalize wo.setCell ⟨rb, 2, none⟩ (.bool true) = w9 at *
             have H9 := Lib.hid (And.intro hb9 m9)
             clear hb9 m9))
        exact ⟨⟨j + 1, true, by omega, by go_num, Lib.hid ⟨H9.out.1, by rw [HALL.out]; simp, HR.out.2.2.1.trans H9.out.2, fun h => by cases h⟩⟩, by simp [intOf]; omega⟩
      · go_wp2_with (first
          | (with_reducible change wpList _ _ _ (⟨some 31, _, _, _, _, _⟩ :: _) _ _
             go_must (refine wpList_val rfl (exec_load1 (P := Try.prog) (v := .slice (some ⟨gs, 0, none⟩) n n) (ad := ⟨rb, 1, none⟩) 80 _ rfl rfl (HR.out.1.blk.cell 1) Try.underlying80 rfl) ?_))
          | (with_reducible change wpList _ _ _ (⟨some 33, _, _, _, _, _⟩ :: _) _ _
             go_must (refine wpList_val rfl (exec_elem (P := Try.prog) (g := gs) (off := 0) (q := j) 80 _ _ rfl 4 1 uuB size_boolu rfl rfl hj) ?_)
             rw [show 0 + j * 1 = j from by omega])
          | (with_reducible change wpList _ _ _ (⟨some 34, _, _, _, _, _⟩ :: _) _ _
             go_must (refine wpList_val rfl (exec_load1 (P := Try.prog) (v := .bool true) (ad := ⟨gs, j, none⟩) 4 _ rfl rfl hcs Try.underlying4 rfl) ?_)))
        exact ⟨⟨j + 1, bd, by omega, by go_num, Lib.hid ⟨HR.out.1, by rw [HALL.out, Bool.and_true]; exact HR.out.2.1, HR.out.2.2⟩⟩, by simp [intOf]; omega⟩
    · have hj' : ¬ (j : Int) < n := by omega
      have hall : σ2.take j = σ2 := List.take_of_length_le (by rw [HR.out.1.len]; omega)
      have hbd := HR.out.2.1
      rw [hall] at hbd
      have HBD := Lib.hid hbd
      have hc2 : wo.cell? ⟨rb, 2, none⟩ = some (.bool bd) := HR.out.1.blk.cell 2
      have h0o : Mod Nn w wo := H3.out.2.2.then_ HR.out.2.2.1 (fun g hg (e : g = rb) => by omega)
      have H0o := Lib.hid h0o
      clear hall hbd h0o
      -- zzE
      cases bd
      · rcases H3.out.2.1 with ⟨h1, _⟩ | ⟨L, d, B, cB, h1, h2, h3, h4⟩
        · exfalso
          have := HBD.out
          rw [h1] at this; cases this
        · subst h1 h3
          have hal : σ2.all id = true := by
            have := HBD.out
            cases h : σ2.all id with
            | true => rfl
            | false => rw [h] at this; cases this
          have hlm : lm = some L := by rw [HN.out.2.2.1, h2]; exact if_pos hal
          subst hlm
          have hkept := HN.out.2.2.2 L d σ2 h2
          have hLl : L.length ≤ 12000 := by
            have h5 := hkept.un
            have h6 := unseen_le (List.replicate n false)
            rw [List.length_replicate] at h6
            omega
          have HK := Lib.hid (And.intro hkept.rows (h4.md (by omega) (HR.out.2.2.2 rfl) (fun _ _ f => f)))
          clear hkept h4 h2 hal
          go_wp2_with (first
            | (with_reducible change wpList _ _ _ (⟨some 43, _, _, _, _, _⟩ :: _) _ _
               go_must (refine wpList_val rfl (exec_bslice0 (P := Try.prog) 40 28 rfl uuE sizeE) ?_)
               have b0 : Blk (wo.alloc (.cells #[] 28)) wo.heap.size 28 #[] := Blk.new _ _ _
               have m0 : Mod Nn wo (wo.alloc (.cells #[] 28)) := (Mod.refl _ _).alloc _
               generalize wo.alloc (.cells #[] 28) = w5 at *
               have H5 := Lib.hid (And.intro m0 (own_of_blkS b0 (Nat.le_refl wo.heap.size) (by simp) (Nat.zero_le _) (Nat.zero_le _) rfl : w5.ownsRow wo.heap.size 28 80 (.slice (some ⟨wo.heap.size, 0, none⟩) 0 0) 0 []))
               clear b0 m0)
            | (with_reducible change wpList _ _ _ (⟨some 45, _, _, _, _, _⟩ :: _) _ _
               go_must (refine wpList_append_rd 40 _ _ rfl rfl wo.heap.size 28 zE 80 80 Try.underlying40 infoE zsE (by omega) _ 0 [] rfl H5.out.2 B L.length cB _ rfl (HK.out.2.md (by omega) H5.out.1 (fun _ _ f => f)) (bv_one _) (by omega) (by omega) H5.out.1.size ?_)
               intro v6 w6 own6 gr6 ob6
               have m6 : Mod Nn wo w6 := H5.out.1.grown gr6 (fun x h => by injection h with h; exact .inl (Nat.le_of_eq h))
               rw [Nat.zero_add, List.nil_append] at own6
               obtain ⟨A6, c6, ev6, hc6, hg6⟩ := own_form own6
               subst ev6
               have H6 := Lib.hid (And.intro m6 (And.intro own6 hg6))
               clear own6 gr6 ob6 m6 hg6)
            | (with_reducible change wpList _ _ _ (⟨some 46, _, _, _, _, _⟩ :: _) _ _
               go_must (refine wpList_val rfl (exec_rtree (A := A6) (n := L.length) (c := c6) rfl rfl) ?_))
            | (with_reducible change wpList _ _ _ (⟨some 47, Op.box _ _, _, _, _, _⟩ :: _) _ _
               go_must (refine wpList_box_var 83 _ rfl rfl #[.slice A6 L.length c6] rfl ?_)
               intro w7 b7 m7 z7
               clear z7
               have H7 := Lib.hid (And.intro m7 b7)
               clear m7 b7))
          go_ret2
          have hso : w.heap.size ≤ wo.heap.size := H0o.out.size
          have hs6 : wo.heap.size ≤ w6.heap.size := H6.out.1.size
          refine ⟨(H0o.out.nn_ H6.out.1).nn_ H7.out.1, w6.heap.size, A6, c6, rfl, H7.out.2, (Hold.of_own H6.out.2.1).rd.md (by omega) H7.out.1 (fun _ _ f => f), HK.out.1, hc6, by omega, fun g hg => ⟨by have := (H6.out.2.2 g hg).1; omega, Nat.lt_of_lt_of_le (H6.out.2.2 g hg).2 H7.out.1.size⟩⟩
      · have hlm : lm = none := by
          rw [HN.out.2.2.1]
          rcases H3.out.2.1 with ⟨_, h2⟩ | ⟨L, d, B, cB, h1, h2, h3, h4⟩
          · rw [h2]; rfl
          · rw [h2]
            have := HBD.out
            rw [h1] at this
            have hf : σ2.all id = false := by
              cases h : σ2.all id with
              | false => rfl
              | true => rw [h] at this; cases this
            show (if σ2.all id = true then some L else none) = none
            rw [hf]; rfl
        subst hlm
        go_wp2
        go_ret2
        exact ⟨H0o.out, rfl⟩
end
end Go.Proofs.Ytkcpmkeckcnobaa
