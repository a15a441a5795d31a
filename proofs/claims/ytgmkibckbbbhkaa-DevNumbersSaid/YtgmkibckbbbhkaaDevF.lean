/- peatbanklaw08.fates: the walk. -/
import Derived.Test.YtgmkibckbbbhkaaDevO
namespace Go.Proofs.Ytgmkibckbbbhkaa
open Go.RowKit

def nos : Int → Option (List Int) := fun _ => none
def lowF (t : Int) : Int → Option (List Int) := fun j => if 0 ≤ j ∧ j < t then some (fullL j) else none
def highF (u : Int) : Int → Option (List Int) := fun j => if u < j ∧ j < 3 then some (fullL (100 + j)) else none
theorem write_low (t : Int) (h0 : 0 ≤ t) (h3 : t < 3) : (⟨3, nos, lowF t, 0, false⟩ : Dk).write t (fullL t) = (0, ⟨3, nos, lowF (t + 1), 0, false⟩) := by
  rw [write_up rfl rfl h0 h3 (fullL_len _)]
  unfold Dk.put
  refine congrArg (Prod.mk 0) ?_
  congr 1
  funext j
  unfold lowF
  by_cases h : j = t
  · subst h; rw [if_pos rfl, if_pos (by omega)]
  · rw [if_neg h]
    show (if 0 ≤ j ∧ j < t then some (fullL j) else none) = _
    by_cases h' : 0 ≤ j ∧ j < t
    · rw [if_pos h', if_pos (by omega)]
    · rw [if_neg h', if_neg (by omega)]
theorem write_high (u : Int) (s : Int → Option (List Int)) (h0 : 0 ≤ u) (h3 : u < 3) : (⟨3, s, highF u, 0, false⟩ : Dk).write u (fullL (100 + u)) = (0, ⟨3, s, highF (u - 1), 0, false⟩) := by
  rw [write_up rfl rfl h0 h3 (fullL_len _)]
  unfold Dk.put
  refine congrArg (Prod.mk 0) ?_
  congr 1
  funext j
  unfold highF
  by_cases h : j = u
  · subst h; rw [if_pos rfl, if_pos (by omega)]
  · rw [if_neg h]
    show (if u < j ∧ j < 3 then some (fullL (100 + j)) else none) = _
    by_cases h' : u < j ∧ j < 3
    · rw [if_pos h', if_pos (by omega)]
    · rw [if_neg h', if_neg (by omega)]
theorem sync_low : (⟨3, nos, lowF 3, 0, false⟩ : Dk).sync = (0, ⟨3, lowF 3, highF 2, 0, false⟩) := by
  rw [sync_up rfl rfl (by decide)]
  unfold Dk.flush
  refine congrArg (Prod.mk 0) ?_
  congr 1
  · funext j
    show (lowF 3 j).or none = lowF 3 j
    cases lowF 3 j <;> rfl
  · funext j
    unfold highF
    rw [if_neg (by omega)]
theorem or_some' (x : List Int) (y : Option (List Int)) : ((none : Option (List Int)).or ((some x).or y)).getD zsec = x := by simp only [Option.none_or, Option.some_or, Option.getD_some]
theorem or_none' (x : List Int) : ((none : Option (List Int)).or (some x)).getD zsec = x := by simp only [Option.none_or, Option.getD_some]
theorem o_write' {w0 w : World} {b ms mo : Nat} {D D' : Dk} (h : Own w0 w b ms mo D) (k : Int) {A : Option Addr} {n c : Nat} {bs : List Int} (hr : Rd w A n (bs.map (Value.int .u8))) {r : Int} (hw : D.write k bs = (r, D')) :
    Calls Try.prog 22 #[.pointer (some ⟨b, 0, none⟩), .int .i64 k, .slice A n c] w fun e w' => e = .returned (.int .i64 r) ∧ Own w0 w' b ms mo D' ∧ Mod (In3 b ms mo) w w' :=
  (write_any h.at_ k hr).mono fun e w' ⟨he, hd, hm, _⟩ => by rw [hw] at he hd; exact ⟨he, h.step hd hm, hm⟩
def wkD (fs : List Int) : Dk := (⟨3, lowF 3, highF (-1), 0, false⟩ : Dk).wake fs
theorem wk_may (fs : List Int) (k : Int) (h0 : 0 ≤ k) (h3 : k < 3) : (wkD fs).may k = 0 := may_ok rfl h0 h3
theorem wk_read (fs : List Int) (k : Int) (h0 : 0 ≤ k) (h3 : k < 3) : (wkD fs).read k = fullL (if decide (k ∈ fs) = true then 100 + k else k) := by
  unfold Dk.read
  rw [if_pos (wk_may fs k h0 h3)]
  show ((none : Option (List Int)).or (if k ∈ fs then (highF (-1) k).or (lowF 3 k) else lowF 3 k)).getD zsec = _
  have h1 : lowF 3 k = some (fullL k) := by unfold lowF; rw [if_pos ⟨h0, h3⟩]
  have h2 : highF (-1) k = some (fullL (100 + k)) := by unfold highF; rw [if_pos (by omega)]
  rw [h1, h2]
  clear h1 h2
  by_cases h : k ∈ fs
  · rw [if_pos h, if_pos (decide_eq_true h)]; exact or_some' _ _
  · rw [if_neg h, if_neg (by rw [decide_eq_false h]; exact Bool.false_ne_true)]; exact or_none' _

def bitF (k : Nat) (j : Int) : Bool := bits BinOp.and IntKind.i64 ((k : Int) / 2 ^ j.toNat) 1 == 1
theorem info_fate : (Try.prog.info? 39).map (fun i => (i.zero, i.size, i.bytes)) = some (some (.agg #[.int .i64 0]), 1, 8) := by kernel_rfl
theorem own_not {w : World} {base : Nat} {e : TypeId} {size n : Nat} {v : Value} {xs : List Value} (h : w.ownsRow base e size v n xs) {g : Nat} (hg : v.ownBlock = some g) : base ≤ g ∧ g < w.heap.size := by
  obtain ⟨A, c, rfl, _, hb⟩ := own_form h
  exact hb g (own_of hg)
theorem Own.grown {w0 w w' : World} {b ms mo : Nat} {D : Dk} {row : Option Nat} (h : Own w0 w b ms mo D) (hg : w.grownBy w' row) (hr : ∀ g, row = some g → w0.heap.size ≤ g ∧ ¬ In3 b ms mo g) : Own w0 w' b ms mo D :=
  ⟨h.at_.mod ((Mod.refl (fun g => row = some g) w).grown hg (fun g e => .inr e)) (fun k hk e => (hr k e).2 hk), h.md.grown hg (fun g e => .inl (hr g e).1), h.fr⟩
set_option maxRecDepth 100000 in
set_option maxHeartbeats 4000000 in
theorem fates_any (w : World) : Calls Try.prog 30 #[] w fun e w' => e = .returned (.bool true) ∧ Mod Nn w w' := by
  go_enter Try.func30, Try.ntmps30
  go_wp2
  go_loopw [1] (fun i wr => ∃ keep : Nat, keep ≤ 8 ∧ i = .int .i64 keep ∧ Mod Nn w wr) (fun i _ => 8 - (intOf i).toNat)
  case atStart => exact ⟨0, by omega, rfl, Mod.refl _ _⟩
  case round =>
    obtain ⟨keep, hk, rfl, hmr⟩ := hrel
    by_cases hk8 : keep < 8
    · have hk8' : (keep : Int) < 8 := by omega
      obtain ⟨wo, rfl⟩ : ∃ wo : World, wo = wr := ⟨_, rfl⟩
      go_wp2_with fail
      refine (o_new hmr 3 (by omega) (by omega)).mono ?_
      rintro e w1 ⟨b, ms, mo, rfl, h1⟩
      clear hmr
      go_wp2
      go_loopw [4] (fun i wr => ∃ t : Nat, t ≤ 3 ∧ i = .int .i64 t ∧ Own w wr b ms mo ⟨3, nos, lowF t, 0, false⟩) (fun i _ => 3 - (intOf i).toNat)
      case atStart => exact ⟨0, by omega, rfl, by
        have : (⟨3, nos, lowF (0 : Nat), 0, false⟩ : Dk) = Dk.new 3 := by
          unfold Dk.new; congr 1; funext j; unfold lowF; rw [if_neg (by omega)]
        rw [this]; exact h1⟩
      case round =>
        obtain ⟨t, ht, rfl, h2⟩ := hrel
        clear h1
        by_cases ht3 : t < 3
        · have ht3' : (t : Int) < 3 := by omega
          obtain ⟨wi, rfl⟩ : ∃ wo : World, wo = wr := ⟨_, rfl⟩
          go_wp2_with fail
          refine (o_full h2 t (by omega) (by omega)).mono ?_
          rintro e w3 ⟨g3, rfl, r3, h3, m3⟩
          go_wp2_with fail
          refine (o_write h3 t r3 (write_low t (by omega) (by omega))).mono ?_
          rintro e w4 ⟨rfl, h4⟩
          clear h2 h3 r3 m3
          go_wp2
          exact ⟨⟨t + 1, by omega, by go_num, h4⟩, by simp [intOf]; omega⟩
        · have ht3' : ¬ (t : Int) < 3 := by omega
          have : t = 3 := by omega
          subst this
          clear ht3
          obtain ⟨wi, rfl⟩ : ∃ wo : World, wo = wr := ⟨_, rfl⟩
          go_wp2_with fail
          refine (o_sync h2 sync_low).mono ?_
          rintro e w3 ⟨rfl, h3⟩
          clear h2
          go_wp2
          go_loopw [3, 5] (fun vv i wr => ∃ (v : Value) (u : Int) (n : Nat) (fs : List Int), v = vv ∧ -1 ≤ u ∧ u ≤ 2 ∧ i = .int .i64 u ∧ (n : Int) ≤ 4 - 2 * u ∧ Own w wr b ms mo ⟨3, lowF 3, highF u, 0, false⟩ ∧
            wr.ownsRow w.heap.size 39 1 v n (fs.map (Value.int .i64)) ∧ (∀ g, v.ownBlock = some g → ¬ In3 b ms mo g) ∧ (∀ j, u < j → j < 3 → decide (j ∈ fs) = bitF keep j) ∧ (∀ j, j ≤ u → j ∉ fs)) (fun _ i _ => (intOf i + 1).toNat)
          case atStart => exact ⟨_, 2, 0, [], rfl, by omega, by omega, rfl, by omega, h3, World.ownsRow_nil _ _ _ _, (fun g h => by cases h), (fun j a b => by omega), (fun j _ h => by cases h)⟩
          case round =>
            obtain ⟨v, u, n, fs, rfl, hu0, hu2, rfl, hn, h4, hown, hdis, hin, hout⟩ := hrel
            clear h3
            obtain ⟨wj, rfl⟩ : ∃ wo : World, wo = wr := ⟨_, rfl⟩
            have HI := Lib.hid hin; have HO := Lib.hid hout; clear hin hout
            by_cases hu : 0 ≤ u
            · go_wp2_with fail
              refine (o_full h4 (100 + u) (by omega) (by omega)).mono ?_
              rintro e w5 ⟨g5, rfl, r5, h5, m5⟩
              go_wp2_with fail
              refine (o_write' h5 u r5 (write_high u _ (by omega) (by omega))).mono ?_
              rintro e w6 ⟨rfl, h6, m6⟩
              have hown6 : w6.ownsRow w.heap.size 39 1 v n (fs.map (Value.int .i64)) := by
                refine own_mod (own_mod hown m5 (fun _ _ f => f)) m6 (fun g hg hin => hdis g hg hin)
              have hb6 : ∀ g, v.ownBlock = some g → w.heap.size ≤ g := fun g hg => (own_not hown hg).1
              have HB := Lib.hid hb6; have HD := Lib.hid hdis; have HN := Lib.hid hn
              clear hb6 hdis hown m5 m6 r5 h5 h4 hn
              have hsz := h6.md.size
              by_cases hbit : bitF keep u = true
              · have hbit' : (bits BinOp.and IntKind.i64 ((keep : Int) / 2 ^ u.toNat) 1 == 1) = true := hbit
                have HBit := Lib.hid hbit; clear hbit
                go_wp2_with (first
                  | (with_reducible change wpList _ _ _ (⟨some 52, _, _, _, _, _⟩ :: _) _ _
                     go_must (refine wpList_append_rd 23 _ _ rfl rfl w.heap.size 39 (.agg #[.int .i64 0]) 1 8 Try.underlying23 info_fate rfl (by omega) v n (fs.map (Value.int .i64)) rfl (own_mod hown6 ((Mod.refl Nn _).alloc _) (fun _ _ f => f)) _ 2 2 ([u, u].map (Value.int .i64)) rfl (Rd.of_blk0 (Blk.new _ _ _) rfl).toC (ints_oneCell _ _) (by have := HN.out; omega) (by have := HN.out; omega) (by simp; omega) ?_)
                     intro v7 w7 hv7 hg7 hbl7))
                refine ⟨⟨v7, u - 1, n + 2, fs ++ [u, u], rfl, by omega, by omega, rfl, by have := HN.out; omega, (h6.alloc _).grown hg7 (fun g hg => ⟨HB.out g hg, HD.out g hg⟩), ?_, ?_, ?_, ?_⟩, by simp [intOf]; omega⟩
                · rw [List.map_append]; exact hv7
                · intro g hg
                  rcases hbl7 with h | h
                  · exact HD.out g (h.symm.trans hg)
                  · rw [h] at hg; injection hg with hg
                    intro hin
                    have := (h6.alloc (.cells #[.int .i64 u, .int .i64 u] 39)).at_.lt g hin
                    omega
                · intro j h1 h2
                  by_cases hj : j = u
                  · subst hj; rw [HBit.out]; simp
                  · rw [← HI.out j (by omega) h2]; simp [hj]
                · intro j hj hin
                  rcases List.mem_append.1 hin with h | h
                  · exact HO.out j (by omega) h
                  · simp only [List.mem_cons, List.not_mem_nil, or_false, or_self] at h; omega
              · have hbit' : (bits BinOp.and IntKind.i64 ((keep : Int) / 2 ^ u.toNat) 1 == 1) = false := Bool.eq_false_iff.2 hbit
                have HBit := Lib.hid hbit; clear hbit
                go_wp2
                refine ⟨⟨v, u - 1, n, fs, rfl, by omega, by omega, rfl, by have := HN.out; omega, h6, hown6, HD.out, ?_, ?_⟩, by simp [intOf]; omega⟩
                · intro j h1 h2
                  by_cases hj : j = u
                  · subst hj
                    rw [decide_eq_false (HO.out j (Int.le_refl _))]; exact hbit'.symm
                  · exact HI.out j (by omega) h2
                · exact fun j hj => HO.out j (by omega)
            · have hu1 : u = -1 := by omega
              subst hu1
              have hn6 : n ≤ 6 := by omega
              obtain ⟨A, c, rfl, hrd, hgb⟩ := own_rd hown
              have hdis' : ∀ g, Of A g → ¬ In3 b ms mo g := fun g hg => hdis g (of_own hg)
              clear hn hown hdis hu hgb
              go_wp2_with fail
              refine (o_wake h4 hrd (fun _ => hdis') (by omega) rfl).mono ?_
              rintro e w5 ⟨rfl, h5⟩
              have hW : (⟨3, lowF 3, highF (-1), 0, false⟩ : Dk).wake fs = wkD fs := rfl
              rw [hW] at h5
              clear hW hrd hdis' h4
              go_wp2
              go_loopw [6] (fun i wr => ∃ t : Nat, t ≤ 3 ∧ i = .int .i64 t ∧ Own w wr b ms mo (wkD fs)) (fun i _ => 3 - (intOf i).toNat)
              case atStart => exact ⟨0, by omega, rfl, h5⟩
              case round =>
                obtain ⟨t, ht, rfl, h6⟩ := hrel
                clear h5
                obtain ⟨wk, rfl⟩ : ∃ wo : World, wo = wr := ⟨_, rfl⟩
                by_cases ht3 : t < 3
                · have ht3' : (t : Int) < 3 := by omega
                  go_wp2_with fail
                  refine (o_read h6 t (wk_may fs t (by omega) (by omega)) (wk_read fs t (by omega) (by omega)) (fullL_len _)).mono ?_
                  rintro e w7 ⟨A7, c7, rfl, r7, h7, m7, -⟩
                  rw [HI.out t (by omega) (by omega)] at r7
                  clear h6
                  by_cases hbit : bitF keep t = true
                  · rw [if_pos hbit] at r7
                    have hbit' : (bits BinOp.and IntKind.i64 ((keep : Int) / 2 ^ ((t : Int)).toNat) 1 == 1) = true := hbit
                    rw [show ((t : Int)).toNat = t from by omega] at hbit'
                    clear hbit
                    go_wp2_with fail
                    refine (o_full h7 (t + 100) (by omega) (by omega)).mono ?_
                    rintro e w8 ⟨g8, rfl, r8, h8, m8⟩
                    go_wp2_with fail
                    refine (o_same h8 (r7.mod m8 (fun _ _ f => f)) r8 (by omega) (by omega) (r := true) (decide_eq_true (congrArg fullL (by omega)))).mono ?_
                    rintro e w9 ⟨rfl, h9, m9⟩
                    clear h7 h8 r7 r8
                    go_wp2
                    exact ⟨⟨t + 1, by omega, by go_num, h9⟩, by simp [intOf]; omega⟩
                  · rw [if_neg hbit] at r7
                    have hbit' : (bits BinOp.and IntKind.i64 ((keep : Int) / 2 ^ ((t : Int)).toNat) 1 == 1) = false := Bool.eq_false_iff.2 hbit
                    rw [show ((t : Int)).toNat = t from by omega] at hbit'
                    clear hbit
                    go_wp2_with fail
                    refine (o_full h7 t (by omega) (by omega)).mono ?_
                    rintro e w8 ⟨g8, rfl, r8, h8, m8⟩
                    go_wp2_with fail
                    refine (o_same h8 (r7.mod m8 (fun _ _ f => f)) r8 (by omega) (by omega) (r := true) (decide_eq_true rfl)).mono ?_
                    rintro e w9 ⟨rfl, h9, m9⟩
                    clear h7 h8 r7 r8
                    go_wp2
                    exact ⟨⟨t + 1, by omega, by go_num, h9⟩, by simp [intOf]; omega⟩
                · have ht3' : ¬ (t : Int) < 3 := by omega
                  have M6 := h6.md
                  go_wp2
                  exact ⟨⟨keep + 1, by omega, by go_num, M6⟩, by simp [intOf]; omega⟩
    · have hk8' : ¬ (keep : Int) < 8 := by omega
      go_wp2
      go_ret
      exact ⟨rfl, hmr⟩
end Go.Proofs.Ytgmkibckbbbhkaa
