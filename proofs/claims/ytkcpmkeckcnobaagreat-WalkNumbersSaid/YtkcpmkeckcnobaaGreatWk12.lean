/- peatbanklaw17.WalkAll. -/
import Derived.Test.YtkcpmkeckcnobaaGreatWk11
import Derived.Test.YtkcpmkeckcnobaaGreatApE
namespace Go.Proofs.YtkcpmkeckcnobaaGreat
open Go.RowKit

theorem wp_val' {P : Program} {o : Oper} {a : Act} {w w' : World} {next : Act → World → Prop} {Q : Exit → Act → World → Prop} {v : Value} (hrun : (execOp a.eval o).run P w = .ok (.value v) w') (h : next (a.put o.dst v) w') : o.wp P a w next Q := by
  unfold Oper.wp
  rw [hrun]
  exact h
theorem exec_two_rows {w : World} {o : Oper} {a : Act} {x y : Operand} {A B : Option Addr} {n m c d : Nat} (ho : o.op = .buildSlice 52 2 #[(0, x), (1, y)]) (hx : a.eval x = .slice A n c) (hy : a.eval y = .slice B m d) :
    (execOp a.eval o).run Tryz.prog w = .ok (.value (.slice (some ⟨w.heap.size, 0, none⟩) 2 2)) (w.alloc (.cells #[.slice A n c, .slice B m d] 28)) := by
  have := exec_bsliceN (P := Tryz.prog) (w := w) (a := a) 52 28 2 _ [.slice A n c, .slice B m d] ho Tryz.underlying52 (s := 1) (z := .slice none 0 0) (by kernel_rfl) (by omega) (by omega) (by simp [hx, hy, List.zipIdx]) rfl (by
    intro q hq
    simp only [List.mem_cons, List.not_mem_nil, or_false] at hq
    rcases hq with rfl | rfl <;> rfl)
  exact this
section
variable {w : World} {A : Option Addr} {n c0 : Nat} {E : List (List Nat)}
set_option maxRecDepth 100000 in
set_option maxHeartbeats 12800000 in
theorem walkall_any (hE : RowsAt w A n E) : Calls Tryz.prog 4 #[.slice A n c0] w fun r w' => r = .returned (.bool true) ∧ Mod Nn w w' := by
  have H0 := Lib.hid hE
  clear hE
  go_enter Tryz.func4, Tryz.ntmps4
  go_wp2_with fail
  refine (planted_any (c := c0) H0.out).mono ?_
  rintro r w5 ⟨b, G, v5, rfl, ht5, ho5, hG5, m5⟩
  obtain ⟨A5, c5, rfl, -, -, hr5, hof5⟩ := ho5.slice
  have hlike := pl_like (E.take 200)
  have hRl : (plR (E.take 200)).length ≤ 200 := by have := plR_len (E.take 200); rw [List.length_take] at this; omega
  have hrows : Rows 80 (plR (E.take 200)) := plR_rows (fun r hr => H0.out.2.1 r (List.mem_of_mem_take hr))
  obtain ⟨R, hR⟩ : ∃ R, plR (E.take 200) = R := ⟨_, rfl⟩
  obtain ⟨L, hL⟩ : ∃ L, ordR (E.take 200) = L := ⟨_, rfl⟩
  rw [hR] at hr5 hlike hRl hrows ⊢
  rw [hL] at ht5 hlike
  have hofl : ∀ g, Of A5 g → g < w5.heap.size := fun g hg => by have := ho5.blk (hof5 g hg); exact this.2
  have hLl : L.length = R.length := hlike.len.symm
  have hL2 : L.length ≤ 200 := by omega
  have H5 := Lib.hid (And.intro m5 (And.intro ht5 (And.intro (show RowsAt w5 A5 R.length R from ⟨hr5, hrows, rfl⟩) (And.intro hlike (And.intro (fun g hg => by have := ht5.lt g hg; exact this : ∀ g ∈ G, g < w5.heap.size) hofl)))))
  have hs5 : w.heap.size ≤ w5.heap.size := m5.size
  clear ht5 ho5 hG5 m5 hr5 hof5 hlike hrows hR hL hofl hLl
  have hall : ∀ wz, TrAt wz b L G → Calls Tryz.prog 18 #[.pointer (some ⟨b, 0, none⟩)] wz fun r w' => ∃ v, r = .returned v ∧ OwnE w' wz.heap.size v L ∧ Mod Nn wz w' := fun wz ht =>
    wall_any ht.srt ht.rows (by omega) (fun wy κ wi hz h1 h2 => tafter_any (ht.nn hz) h1 h2)
  have HA := Lib.hid hall
  clear hall
  go_wp2_with fail
  refine (HA.out w5 H5.out.2.1).mono ?_
  rintro r w6 ⟨va, rfl, ha6, m6⟩
  have H6 := Lib.hid (And.intro m6 ha6)
  clear ha6 m6
  go_wp2_with fail
  refine (HA.out w6 (H5.out.2.1.nn H6.out.1)).mono ?_
  rintro r w7 ⟨vb, rfl, hb7, m7⟩
  have H7 := Lib.hid (And.intro (H6.out.1.nn_ m7) (And.intro (H6.out.2.nn m7) hb7))
  have hs6 : w5.heap.size ≤ w6.heap.size := H6.out.1.size
  have hs7 : w6.heap.size ≤ w7.heap.size := m7.size
  clear hb7 m7
  go_wp2_with fail
  refine (rall_any (c := c5) (H5.out.2.2.1.nn H7.out.1) H5.out.2.2.2.1 (by omega)).mono ?_
  rintro r w8 ⟨vr, rfl, hr8, m8⟩
  have ha8 := H7.out.2.1.nn m8
  have hb8 := H7.out.2.2.nn m8
  obtain ⟨Aa, ca, rfl, -, -, hra, -⟩ := ha8.slice
  obtain ⟨Ab, cb, rfl, -, -, hrb, -⟩ := hb8.slice
  obtain ⟨Ar, cr, rfl, -, -, hrr, -⟩ := hr8.slice
  have hLrow : Rows 80 L := H5.out.2.1.rows
  have hsep : ∀ g, (Value.slice Aa L.length ca).ownBlock = some g → (Value.slice Ab L.length cb).ownBlock = some g → False := fun g h1 h2 => by
    have k1 := H6.out.2.blk h1
    have k2 := H7.out.2.2.blk h2
    omega
  have hba : ∀ g, (Value.slice Aa L.length ca).ownBlock = some g → w5.heap.size ≤ g := fun g h => (H6.out.2.blk h).1
  have hbb : ∀ g, (Value.slice Ab L.length cb).ownBlock = some g → w6.heap.size ≤ g := fun g h => (H7.out.2.2.blk h).1
  have H8 := Lib.hid (And.intro (H7.out.1.nn_ m8) (And.intro ha8 (And.intro hb8 (And.intro hra (And.intro hrr (And.intro hLrow (And.intro hsep (And.intro hba hbb))))))))
  have hs8 : w7.heap.size ≤ w8.heap.size := m8.size
  clear ha8 hb8 hra hrb hrr hr8 m8 hLrow hsep hba hbb
  go_wp2_with fail
  refine (sameE_yes H8.out.2.2.2.1 H8.out.2.2.2.2.1 H8.out.2.2.2.2.2.1 rfl (by omega)).mono ?_
  rintro r w9 ⟨rfl, m9⟩
  have H9 := Lib.hid (And.intro (H8.out.1.nn_ m9) (And.intro (H8.out.2.1.nn m9) (H8.out.2.2.1.nn m9)))
  have hs9 : w8.heap.size ≤ w9.heap.size := m9.size
  clear m9
  (try dsimp only); (try go_simp); repeat' (first | ((fail_if_success (with_reducible change Oper.wp _ ⟨some 23, _, _, _, _, _⟩ _ _ _ _)); first | go_values | go_skip | go_guarded | go_step | go_upon | go_back))
  refine wp_val' (exec_two_rows rfl rfl rfl) ?_
  have b10 : Blk (w9.alloc (.cells #[.slice Aa L.length ca, .slice Ab L.length cb] 28)) w9.heap.size 28 #[.slice Aa L.length ca, .slice Ab L.length cb] := Blk.new _ _ _
  have m10 : Mod Nn w9 (w9.alloc (.cells #[.slice Aa L.length ca, .slice Ab L.length cb] 28)) := (Mod.refl _ _).alloc _
  generalize w9.alloc (.cells #[.slice Aa L.length ca, .slice Ab L.length cb] 28) = w10 at *
  have hrd : Rd w10 (some ⟨w9.heap.size, 0, none⟩) 2 ([(⟨Aa, L.length, ca⟩ : Row), ⟨Ab, L.length, cb⟩].map Row.v) := ⟨rfl, fun _ => ⟨_, 0, rfl, fun j v hv => by rw [Nat.zero_add, b10.cell j]; simpa [Row.v] using hv⟩⟩
  have hry : RowsY w10 43 80 [(⟨Aa, L.length, ca⟩ : Row), ⟨Ab, L.length, cb⟩] (fun _ => bv L.flatten) := fun j r hj => by
    match j, hj with
    | 0, hj => injection hj with hj; subst hj; exact own_base (H9.out.2.1.nn m10) (fun _ _ => Nat.zero_le _)
    | 1, hj => injection hj with hj; subst hj; exact own_base (H9.out.2.2.nn m10) (fun _ _ => Nat.zero_le _)
  have hap : AptR [(⟨Aa, L.length, ca⟩ : Row), ⟨Ab, L.length, cb⟩] := fun i j r q g hi hj h1 h2 => by
    match i, j, hi, hj with
    | 0, 0, _, _ => rfl
    | 1, 1, _, _ => rfl
    | 0, 1, hi, hj =>
      injection hi with hi; injection hj with hj; subst hi; subst hj
      exact (H8.out.2.2.2.2.2.2.1 g h1 h2).elim
    | 1, 0, hi, hj =>
      injection hi with hi; injection hj with hj; subst hi; subst hj
      exact (H8.out.2.2.2.2.2.2.1 g h2 h1).elim
  have hbk : ∀ g, Bks [(⟨Aa, L.length, ca⟩ : Row), ⟨Ab, L.length, cb⟩] g → w5.heap.size ≤ g := fun g ⟨j, r, hj, hg⟩ => by
    match j, hj with
    | 0, hj => injection hj with hj; subst hj; exact H8.out.2.2.2.2.2.2.2.1 g hg
    | 1, hj => injection hj with hj; subst hj; have := H8.out.2.2.2.2.2.2.2.2 g hg; omega
  have H10 := Lib.hid (And.intro (H9.out.1.nn_ m10) (And.intro hrd (And.intro hry (And.intro hap hbk))))
  clear b10 m10 hrd hry hap hbk
  go_wp2_with fail
  refine (apartE_any (c0 := 2) H10.out.2.1 H10.out.2.2.1 H10.out.2.2.2.1 (by omega) (fun j r hj => by
    match j, hj with
    | 0, hj => injection hj with hj; subst hj; show L.length ≤ _; omega
    | 1, hj => injection hj with hj; subst hj; show L.length ≤ _; omega)).mono ?_
  rintro r w11 ⟨rfl, m11⟩
  have hm11 : Mod Nn w5 w11 := H10.out.1.then_ m11 (fun g hg h => by have := H10.out.2.2.2.2 g h; omega)
  have H11 := Lib.hid (And.intro hm11 (And.intro ((H5.out.2.1.nn H10.out.1).mod m11 (fun g hg h => by have h1 := H10.out.2.2.2.2 g h; have h2 := H5.out.2.2.2.2.1 g hg; omega)) ((H5.out.2.2.1.nn H10.out.1).mod m11 (fun g hg h => by have h1 := H10.out.2.2.2.2 g h; have h2 := H5.out.2.2.2.2.2 g hg; omega))))
  clear m11 hm11
  go_wp2_with fail
  refine (HA.out w11 H11.out.2.1).mono ?_
  rintro r w12 ⟨vc, rfl, hc12, m12⟩
  have H12 := Lib.hid (And.intro (H11.out.1.nn_ m12) (And.intro hc12 (H11.out.2.2.nn m12)))
  clear hc12 m12
  go_wp2_with fail
  refine (rall_any (c := c5) H12.out.2.2 H5.out.2.2.2.1 (by omega)).mono ?_
  rintro r w13 ⟨vd, rfl, hd13, m13⟩
  have hc13 := H12.out.2.1.nn m13
  obtain ⟨Ac, cc, rfl, -, -, hrc, -⟩ := hc13.slice
  obtain ⟨Ad, cd, rfl, -, -, hrd, -⟩ := hd13.slice
  have H13 := Lib.hid (And.intro (H12.out.1.nn_ m13) (And.intro hrc hrd))
  clear hc13 hd13 m13 hrc hrd
  go_wp2_with fail
  refine (sameE_yes H13.out.2.1 H13.out.2.2 H8.out.2.2.2.2.2.1 rfl (by omega)).mono ?_
  rintro r w14 ⟨rfl, m14⟩
  have H14 := Lib.hid (H13.out.1.nn_ m14)
  clear m14
  go_wp2_with fail
  refine (walk_awake w14).mono ?_
  rintro r w15 ⟨rfl, m15⟩
  have H15 := Lib.hid (H5.out.1.nn_ (H14.out.nn_ m15))
  clear m15
  go_wp2
  go_ret
  exact ⟨rfl, H15.out⟩
end
end Go.Proofs.YtkcpmkeckcnobaaGreat
