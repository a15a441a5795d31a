/- Own lemmas of several kinds, put together: ApB2, ApB3. -/
import Derived.Test.YtfoldjnmknaklaaGreatApB1
import Derived.Test.YtfoldjnmknaklaaGreatFlatA
/- The kit's bag: putBytes, apart; ApartBytes: rows of bytes handed out lie apart (printed by wip/tools/flats.py). -/
namespace Go.Proofs.YtfoldjnmknaklaaGreat
open Go.RowKit

/-- a bag with rows of bytes alone -/
def bagC (v : Value) : Array Value := #[.slice none 0 0, .slice none 0 0, .slice none 0 0, .slice none 0 0, .slice none 0 0, v, .slice none 0 0, .slice none 0 0, .slice none 0 0, .slice none 0 0, .slice none 0 0, .slice none 0 0, .slice none 0 0, .slice none 0 0, .slice none 0 0, .slice none 0 0, .slice none 0 0, .slice none 0 0, .slice none 0 0, .slice none 0 0, .slice none 0 0]
theorem rowv_one (r : Row) : r.v.oneCell' = true := rfl

set_option maxRecDepth 100000 in
set_option maxHeartbeats 1600000 in
theorem putB_any {w : World} {bb base n : Nat} {v : Value} {xs : List Value} (hb : Blk w bb 93 (bagC v)) (hown : w.ownsRow base 24 1 v n xs) (hv : v.ownBlock ≠ some bb) (hbb : base ≤ bb) (hn : n ≤ 1000) (r : Row) :
    Calls Tryz.prog 60 #[.pointer (some ⟨bb, 0, none⟩), r.v] w fun e w' => e = .returned (.tuple #[]) ∧ ∃ v', Blk w' bb 93 (bagC v') ∧ w'.ownsRow base 24 1 v' (n + 1) (xs ++ [r.v]) ∧ v'.ownBlock ≠ some bb ∧ Mod (fun g => base ≤ g) w w' := by
  obtain ⟨A, m, c⟩ := r
  show Calls _ _ #[_, .slice A m c] w _
  have c5 : w.cell? ⟨bb, 5, none⟩ = some v := hb.cell 5
  have H := Lib.hid (And.intro hb (And.intro hown hv))
  obtain ⟨A0, c0, rfl, hnc, hAb⟩ := own_form hown
  clear hb hown hv
  go_enter Tryz.func60, Tryz.ntmps60
  go_wp2_with (first
    | (with_reducible change wpList _ _ _ (⟨some 11, _, _, _, _, _⟩ :: _) _ _
       go_must (refine wpList_append_two 60 _ _ rfl rfl base 24 (.slice none 0 0) 1 24 Tryz.underlying60 info_sl8 rfl (by omega) (.slice A0 n c0) n xs rfl (own_mod H.out.2.1 ((Mod.refl Nn _).alloc _) (fun _ _ f => f)) _ 1 1 [.slice A m c] rfl (Rd.of_blk0 (Blk.new _ _ _) rfl).toC (by omega) (fun u hu => by rw [List.mem_singleton.1 hu]; rfl) (by omega) (by omega) (by have := H.out.1.lt; rw [World.size_alloc]; omega) ?_)
       intro v' w2 own2 two2
       have hb1 := H.out.1.alloc (.cells #[Value.slice A m c] 24)
       have hb2 : Blk w2 bb 93 (bagC (.slice A0 n c0)) := hb1.mod two2.mod H.out.2.2
       have hb2l := hb2.lt
       have hv' : v'.ownBlock ≠ some bb := fun e => by
         rcases two2.blk e with h1 | h1
         · exact H.out.2.2 h1
         · have := H.out.1.lt; rw [World.size_alloc] at h1; omega
       have m2 : Mod (fun g => base ≤ g) w w2 := ((Mod.refl (fun g => base ≤ g) w).alloc _).then_ two2.mod (fun g _ hg => (hAb g (own_of hg)).1)
       have hs := hb2.set_ 5 v'
       have hos := own_mod own2 (Mod.cellAt w2 bb 5 v') (fun g hg e => by have e : g = bb := e; subst e; exact hv' hg)
       have ms := m2.at_ (Mod.cellAt w2 bb 5 v') hbb
       have HE := Lib.hid (And.intro hs (And.intro hos (And.intro hv' ms)))
       have hf5 := hb2.frozen 5
       have c5' : w2.cell? ⟨bb, 5, none⟩ = some (.slice A0 n c0) := hb2.cell 5
       obtain ⟨A', c', rfl, -, -⟩ := own_form own2
       clear own2 two2 hb1 hb2 hs hos ms m2 hv'))
  go_end0
  exact ⟨rfl, _, HE.out⟩

set_option maxRecDepth 100000 in
set_option maxHeartbeats 6400000 in
theorem bagApart_any {w : World} {bb m c0 : Nat} {A0 : Option Addr} {L : List Row} {Y : Nat → List Value} (hb : Blk w bb 93 (bagC (.slice A0 m c0))) (h0 : Rd w A0 m (L.map Row.v)) (hrows : RowsY w 5 1 L Y) (ha : AptR L)
    (hA : ∀ g, Of A0 g → ¬ Bks L g) (hm : m ≤ 400) (hn : ∀ (j : Nat) (r : Row), L[j]? = some r → r.n ≤ 1099511627776) (hbb : ¬ Bks L bb) :
    Calls Tryz.prog 48 #[.pointer (some ⟨bb, 0, none⟩)] w fun e w' => e = .returned (.bool true) ∧ Mod (Bks L) w w' := by
  have HH := Lib.hid (And.intro hb (And.intro h0 (And.intro hrows (And.intro ha (And.intro hA (And.intro hn hbb))))))
  have k0 : w.cell? ⟨bb, 0, none⟩ = some (.slice none 0 0) := hb.cell 0
  have M0 : Mod (Bks L) w w := Mod.refl _ _
  clear hb h0 hrows ha hA hn hbb
  go_enter Tryz.func48, Tryz.ntmps48
  go_wp2_with fail
  refine (flatLimbs_nil _).mono ?_
  rintro r w1 ⟨rfl, m1⟩
  have M1 := M0.nn_ m1
  have N1 : Mod Nn w w1 := m1
  have k1 : w1.cell? ⟨bb, 1, none⟩ = some (.slice none 0 0) := (HH.out.1.mod M1 HH.out.2.2.2.2.2.2).cell 1
  clear m1 M0 k0
  go_wp2_with fail
  refine (flatWords_nil _).mono ?_
  rintro r w2 ⟨rfl, m2⟩
  have M2 := M1.nn_ m2
  have N2 := N1.nn_ m2
  have k2 : w2.cell? ⟨bb, 2, none⟩ = some (.slice none 0 0) := (HH.out.1.mod M2 HH.out.2.2.2.2.2.2).cell 2
  clear m2 M1 k1 N1
  go_wp2_with fail
  refine (flatInts_nil _).mono ?_
  rintro r w3 ⟨rfl, m3⟩
  have M3 := M2.nn_ m3
  have N3 := N2.nn_ m3
  have k3 : w3.cell? ⟨bb, 3, none⟩ = some (.slice none 0 0) := (HH.out.1.mod M3 HH.out.2.2.2.2.2.2).cell 3
  clear m3 M2 k2 N2
  go_wp2_with fail
  refine (flatLongs_nil _).mono ?_
  rintro r w4 ⟨rfl, m4⟩
  have M4 := M3.nn_ m4
  have N4 := N3.nn_ m4
  have k4 : w4.cell? ⟨bb, 4, none⟩ = some (.slice none 0 0) := (HH.out.1.mod M4 HH.out.2.2.2.2.2.2).cell 4
  clear m4 M3 k3 N3
  go_wp2_with fail
  refine (flatTexts_nil _).mono ?_
  rintro r w5 ⟨rfl, m5⟩
  have M5 := M4.nn_ m5
  have N5 := N4.nn_ m5
  have k5 : w5.cell? ⟨bb, 5, none⟩ = some (.slice A0 m c0) := (HH.out.1.mod M5 HH.out.2.2.2.2.2.2).cell 5
  clear m5 M4 k4 N4
  go_wp2_with fail
  refine (flatB_any (HH.out.2.1.mod M5 HH.out.2.2.2.2.1) (HH.out.2.2.1.mod N5 (fun _ _ f => f)) HH.out.2.2.2.1 HH.out.2.2.2.2.1 hm HH.out.2.2.2.2.2.1).mono ?_
  rintro r w6 ⟨rfl, m6⟩
  have M6 := M5.trans m6
  have k6 : w6.cell? ⟨bb, 6, none⟩ = some (.slice none 0 0) := (HH.out.1.mod M6 HH.out.2.2.2.2.2.2).cell 6
  clear m6 M5 k5 N5
  go_wp2_with fail
  refine (flatTreeKeys_nil _).mono ?_
  rintro r w7 ⟨rfl, m7⟩
  have M7 := M6.nn_ m7
  have k7 : w7.cell? ⟨bb, 7, none⟩ = some (.slice none 0 0) := (HH.out.1.mod M7 HH.out.2.2.2.2.2.2).cell 7
  clear m7 M6 k6
  go_wp2_with fail
  refine (flatPieces_nil _).mono ?_
  rintro r w8 ⟨rfl, m8⟩
  have M8 := M7.nn_ m8
  have k8 : w8.cell? ⟨bb, 8, none⟩ = some (.slice none 0 0) := (HH.out.1.mod M8 HH.out.2.2.2.2.2.2).cell 8
  clear m8 M7 k7
  go_wp2_with fail
  refine (flatFates_nil _).mono ?_
  rintro r w9 ⟨rfl, m9⟩
  have M9 := M8.nn_ m9
  have k9 : w9.cell? ⟨bb, 9, none⟩ = some (.slice none 0 0) := (HH.out.1.mod M9 HH.out.2.2.2.2.2.2).cell 9
  clear m9 M8 k8
  go_wp2_with fail
  refine (flatFrames_nil _).mono ?_
  rintro r w10 ⟨rfl, m10⟩
  have M10 := M9.nn_ m10
  have k10 : w10.cell? ⟨bb, 10, none⟩ = some (.slice none 0 0) := (HH.out.1.mod M10 HH.out.2.2.2.2.2.2).cell 10
  clear m10 M9 k9
  go_wp2_with fail
  refine (flatPlaces_nil _).mono ?_
  rintro r w11 ⟨rfl, m11⟩
  have M11 := M10.nn_ m11
  have k11 : w11.cell? ⟨bb, 11, none⟩ = some (.slice none 0 0) := (HH.out.1.mod M11 HH.out.2.2.2.2.2.2).cell 11
  clear m11 M10 k10
  go_wp2_with fail
  refine (flatEntries_nil _).mono ?_
  rintro r w12 ⟨rfl, m12⟩
  have M12 := M11.nn_ m12
  have k12 : w12.cell? ⟨bb, 12, none⟩ = some (.slice none 0 0) := (HH.out.1.mod M12 HH.out.2.2.2.2.2.2).cell 12
  clear m12 M11 k11
  go_wp2_with fail
  refine (flatNodes_nil _).mono ?_
  rintro r w13 ⟨rfl, m13⟩
  have M13 := M12.nn_ m13
  have k13 : w13.cell? ⟨bb, 13, none⟩ = some (.slice none 0 0) := (HH.out.1.mod M13 HH.out.2.2.2.2.2.2).cell 13
  clear m13 M12 k12
  go_wp2_with fail
  refine (flatItems_nil _).mono ?_
  rintro r w14 ⟨rfl, m14⟩
  have M14 := M13.nn_ m14
  have k14 : w14.cell? ⟨bb, 14, none⟩ = some (.slice none 0 0) := (HH.out.1.mod M14 HH.out.2.2.2.2.2.2).cell 14
  clear m14 M13 k13
  go_wp2_with fail
  refine (flatCounts_nil _).mono ?_
  rintro r w15 ⟨rfl, m15⟩
  have M15 := M14.nn_ m15
  have k15 : w15.cell? ⟨bb, 15, none⟩ = some (.slice none 0 0) := (HH.out.1.mod M15 HH.out.2.2.2.2.2.2).cell 15
  clear m15 M14 k14
  go_wp2_with fail
  refine (flatFreshes_nil _).mono ?_
  rintro r w16 ⟨rfl, m16⟩
  have M16 := M15.nn_ m16
  have k16 : w16.cell? ⟨bb, 16, none⟩ = some (.slice none 0 0) := (HH.out.1.mod M16 HH.out.2.2.2.2.2.2).cell 16
  clear m16 M15 k15
  go_wp2_with fail
  refine (flatPuts_nil _).mono ?_
  rintro r w17 ⟨rfl, m17⟩
  have M17 := M16.nn_ m17
  have k17 : w17.cell? ⟨bb, 17, none⟩ = some (.slice none 0 0) := (HH.out.1.mod M17 HH.out.2.2.2.2.2.2).cell 17
  clear m17 M16 k16
  go_wp2_with fail
  refine (flatOps_nil _).mono ?_
  rintro r w18 ⟨rfl, m18⟩
  have M18 := M17.nn_ m18
  have k18 : w18.cell? ⟨bb, 18, none⟩ = some (.slice none 0 0) := (HH.out.1.mod M18 HH.out.2.2.2.2.2.2).cell 18
  clear m18 M17 k17
  go_wp2_with fail
  refine (flatSteps_nil _).mono ?_
  rintro r w19 ⟨rfl, m19⟩
  have M19 := M18.nn_ m19
  have k19 : w19.cell? ⟨bb, 19, none⟩ = some (.slice none 0 0) := (HH.out.1.mod M19 HH.out.2.2.2.2.2.2).cell 19
  clear m19 M18 k18
  go_wp2_with fail
  refine (flatStats_nil _).mono ?_
  rintro r w20 ⟨rfl, m20⟩
  have M20 := M19.nn_ m20
  have k20 : w20.cell? ⟨bb, 20, none⟩ = some (.slice none 0 0) := (HH.out.1.mod M20 HH.out.2.2.2.2.2.2).cell 20
  clear m20 M19 k19
  go_wp2_with fail
  refine (flatTales_nil _).mono ?_
  rintro r w21 ⟨rfl, m21⟩
  have M21 := M20.nn_ m21
  clear m21 M20 k20
  go_wp2
  go_ret
  exact ⟨rfl, M21⟩

set_option maxRecDepth 100000 in
set_option maxHeartbeats 3200000 in
theorem apartB_any {w : World} {A0 : Option Addr} {m c0 : Nat} {L : List Row} {Y : Nat → List Value} (h0 : Rd w A0 m (L.map Row.v)) (hrows : RowsY w 5 1 L Y) (ha : AptR L)
    (hm : m ≤ 400) (hn : ∀ (j : Nat) (r : Row), L[j]? = some r → r.n ≤ 1099511627776) :
    Calls Tryz.prog 34 #[.slice A0 m c0] w fun e w' => e = .returned (.bool true) ∧ Mod (Bks L) w w' := by
  have hlen : L.length = m := by simpa using h0.1
  have HH := Lib.hid (And.intro h0 (And.intro hrows (And.intro ha (And.intro hn hlen))))
  clear h0 hrows ha hn hlen
  go_enter Tryz.func34, Tryz.ntmps34
  go_wp2
  have B0 := Lib.hid (And.intro (Blk.new w 93 (bagC (.slice none 0 0))) ((Mod.refl Nn w).alloc (.cells (bagC (.slice none 0 0)) 93)))
  unfold bagC at B0
  generalize hw1 : w.alloc (Obj.cells #[.slice none 0 0, .slice none 0 0, .slice none 0 0, .slice none 0 0, .slice none 0 0, .slice none 0 0, .slice none 0 0, .slice none 0 0, .slice none 0 0, .slice none 0 0, .slice none 0 0, .slice none 0 0, .slice none 0 0, .slice none 0 0, .slice none 0 0, .slice none 0 0, .slice none 0 0, .slice none 0 0, .slice none 0 0, .slice none 0 0, .slice none 0 0] 93) = w1 at *
  have B0 : Hid (Blk w1 w.heap.size 93 (bagC (.slice none 0 0)) ∧ Mod Nn w w1) := B0
  clear hw1
  obtain ⟨bb, hbb⟩ : ∃ bb, w.heap.size = bb := ⟨_, rfl⟩
  rw [hbb] at B0 ⊢
  have HB := Lib.hid hbb; clear hbb
  go_loopw [4] (fun i wr => ∃ (k : Nat) (v : Value), k ≤ m ∧ i = .int .i64 k ∧ Blk wr bb 93 (bagC v) ∧ wr.ownsRow bb 24 1 v k ((L.take k).map Row.v) ∧ v.ownBlock ≠ some bb ∧ Mod Nn w wr) (fun i _ => m - (intOf i).toNat)
  case atStart => exact ⟨0, .slice none 0 0, Nat.zero_le _, rfl, B0.out.1, World.ownsRow_nil _ _ _ _, (fun e => by cases e), B0.out.2⟩
  case round =>
    clear B0
    obtain ⟨k, v, hk, rfl, hb, hown, hvb, hmd⟩ := hrel
    obtain ⟨wo, rfl⟩ : ∃ wo : World, wo = wr := ⟨_, rfl⟩
    by_cases hlt : k < m
    · have hlt' : (k : Int) < m := by omega
      obtain ⟨g0, off, r, rfl, hr, hc0⟩ := rowv_at (HH.out.1.mod hmd (fun _ _ f => f)) hlt
      have HX := Lib.hid (And.intro hb (And.intro hown (And.intro hvb (And.intro hmd hr))))
      clear hb hown hvb hmd hr
      have hput := putB_any HX.out.1 HX.out.2.1 HX.out.2.2.1 (Nat.le_refl _) (by omega) r
      obtain ⟨rA, rn, rc⟩ := r
      change _ = some (Value.slice rA rn rc) at hc0
      change Calls _ _ #[_, .slice rA rn rc] _ _ at hput
      go_wp2_with fail
      refine hput.mono ?_
      rintro e w2 ⟨rfl, v', hb', hown', hvb', m2⟩
      have ht : (L.take k).map Row.v ++ [(⟨rA, rn, rc⟩ : Row).v] = (L.take (k + 1)).map Row.v := by
        rw [List.take_add_one, HX.out.2.2.2.2, List.map_append]; rfl
      rw [ht] at hown'
      have HE := Lib.hid (And.intro hb' (And.intro hown' (And.intro hvb' (HX.out.2.2.2.1.then_ m2 (fun g hg hge => by have := HB.out; have hge : bb ≤ g := hge; omega)))))
      clear hput hb' hown' hvb' m2 ht hc0
      go_wp2
      exact ⟨⟨k + 1, v', by omega, by go_num, HE.out⟩, by simp [intOf]; omega⟩
    · have hlt' : ¬ (k : Int) < m := by omega
      have hkm : k = m := by omega
      subst hkm
      obtain ⟨vA, vc, rfl, hvc, hvl⟩ := own_form hown
      have hrd := Rd.of_own hown
      rw [List.take_of_length_le (by rw [HH.out.2.2.2.2]; exact Nat.le_refl _)] at hrd
      have hnb : ∀ g, bb ≤ g → ¬ Bks L g := fun g hg hin => by have := HH.out.2.1.lt g hin; have := HB.out; omega
      have hap := bagApart_any hb hrd (HH.out.2.1.mod hmd (fun _ _ f => f)) HH.out.2.2.1 (fun g hg => hnb g (hvl g hg).1) hm HH.out.2.2.2.1 (hnb bb (Nat.le_refl _))
      have HM := Lib.hid hmd
      clear hb hown hvb hmd hrd hnb hvl
      go_wp2_with fail
      refine hap.mono ?_
      rintro e w2 ⟨rfl, m2⟩
      have M2 : Mod (Bks L) w w2 := HM.out.nn.trans m2
      clear hap m2
      go_wp2
      go_ret
      exact ⟨rfl, M2⟩
end Go.Proofs.YtfoldjnmknaklaaGreat

/- ApartBytes over two rows, and over three. -/
namespace Go.Proofs.YtfoldjnmknaklaaGreat
open Go.RowKit

def two8 (a b : List Value) : Nat → List Value := fun j => match j with | 0 => a | 1 => b | _ => []
def three8 (a b c : List Value) : Nat → List Value := fun j => match j with | 0 => a | 1 => b | 2 => c | _ => []
theorem apartB2 {w : World} {B b1 b2 n1 n2 c1 c2 cc : Nat} {A1 A2 : Option Addr} {xs1 xs2 : List Value} (hB : Blk w B 24 #[.slice A1 n1 c1, .slice A2 n2 c2])
    (h1 : w.ownsRow b1 5 1 (.slice A1 n1 c1) n1 xs1) (h2 : w.ownsRow b2 5 1 (.slice A2 n2 c2) n2 xs2) (hn1 : n1 ≤ 1099511627776) (hn2 : n2 ≤ 1099511627776)
    (h12 : ∀ g, Of A1 g → ¬ Of A2 g) :
    Calls Tryz.prog 34 #[.slice (some ⟨B, 0, none⟩) 2 cc] w fun e w' => e = .returned (.bool true) ∧ Mod (fun g => Of A1 g ∨ Of A2 g) w w' := by
  have hr : Rd w (some ⟨B, 0, none⟩) 2 (([⟨A1, n1, c1⟩, ⟨A2, n2, c2⟩] : List Row).map Row.v) := Rd.of_blk0 hB rfl
  refine (apartB_any (Y := two8 xs1 xs2) hr (fun j r hj => ?_) (fun i j r q g hi hj hg hq => ?_) (by omega) (fun j r hj => ?_)).mono fun e w' ⟨he, hm⟩ => ⟨he, hm.mono (fun k _ ⟨j, r, hj, hk⟩ => ?_)⟩
  · match j, hj with
    | 0, hj => injection hj with hj; subst hj; exact own_base h1 (fun _ _ => Nat.zero_le _)
    | 1, hj => injection hj with hj; subst hj; exact own_base h2 (fun _ _ => Nat.zero_le _)
    | j + 2, hj => simp at hj
  · match i, j, hi, hj with
    | 0, 0, _, _ => rfl
    | 1, 1, _, _ => rfl
    | 0, 1, hi, hj => injection hi with hi; injection hj with hj; subst hi; subst hj; exact (h12 g (own_of hg) (own_of hq)).elim
    | 1, 0, hi, hj => injection hi with hi; injection hj with hj; subst hi; subst hj; exact (h12 g (own_of hq) (own_of hg)).elim
    | i + 2, _, hi, _ => simp at hi
    | _, j + 2, _, hj => simp at hj
  · match j, hj with
    | 0, hj => injection hj with hj; subst hj; exact hn1
    | 1, hj => injection hj with hj; subst hj; exact hn2
    | j + 2, hj => simp at hj
  · match j, hj with
    | 0, hj => injection hj with hj; subst hj; exact .inl (own_of hk)
    | 1, hj => injection hj with hj; subst hj; exact .inr (own_of hk)
    | j + 2, hj => simp at hj
theorem apartB3 {w : World} {B b1 b2 b3 n1 n2 n3 c1 c2 c3 cc : Nat} {A1 A2 A3 : Option Addr} {xs1 xs2 xs3 : List Value} (hB : Blk w B 24 #[.slice A1 n1 c1, .slice A2 n2 c2, .slice A3 n3 c3])
    (h1 : w.ownsRow b1 5 1 (.slice A1 n1 c1) n1 xs1) (h2 : w.ownsRow b2 5 1 (.slice A2 n2 c2) n2 xs2) (h3 : w.ownsRow b3 5 1 (.slice A3 n3 c3) n3 xs3)
    (hn1 : n1 ≤ 1099511627776) (hn2 : n2 ≤ 1099511627776) (hn3 : n3 ≤ 1099511627776)
    (h12 : ∀ g, Of A1 g → ¬ Of A2 g) (h13 : ∀ g, Of A1 g → ¬ Of A3 g) (h23 : ∀ g, Of A2 g → ¬ Of A3 g) :
    Calls Tryz.prog 34 #[.slice (some ⟨B, 0, none⟩) 3 cc] w fun e w' => e = .returned (.bool true) ∧ Mod (fun g => Of A1 g ∨ Of A2 g ∨ Of A3 g) w w' := by
  have hr : Rd w (some ⟨B, 0, none⟩) 3 (([⟨A1, n1, c1⟩, ⟨A2, n2, c2⟩, ⟨A3, n3, c3⟩] : List Row).map Row.v) := Rd.of_blk0 hB rfl
  refine (apartB_any (Y := three8 xs1 xs2 xs3) hr (fun j r hj => ?_) (fun i j r q g hi hj hg hq => ?_) (by omega) (fun j r hj => ?_)).mono fun e w' ⟨he, hm⟩ => ⟨he, hm.mono (fun k _ ⟨j, r, hj, hk⟩ => ?_)⟩
  · match j, hj with
    | 0, hj => injection hj with hj; subst hj; exact own_base h1 (fun _ _ => Nat.zero_le _)
    | 1, hj => injection hj with hj; subst hj; exact own_base h2 (fun _ _ => Nat.zero_le _)
    | 2, hj => injection hj with hj; subst hj; exact own_base h3 (fun _ _ => Nat.zero_le _)
    | j + 3, hj => simp at hj
  · match i, j, hi, hj with
    | 0, 0, _, _ => rfl
    | 1, 1, _, _ => rfl
    | 2, 2, _, _ => rfl
    | 0, 1, hi, hj => injection hi with hi; injection hj with hj; subst hi; subst hj; exact (h12 g (own_of hg) (own_of hq)).elim
    | 1, 0, hi, hj => injection hi with hi; injection hj with hj; subst hi; subst hj; exact (h12 g (own_of hq) (own_of hg)).elim
    | 0, 2, hi, hj => injection hi with hi; injection hj with hj; subst hi; subst hj; exact (h13 g (own_of hg) (own_of hq)).elim
    | 2, 0, hi, hj => injection hi with hi; injection hj with hj; subst hi; subst hj; exact (h13 g (own_of hq) (own_of hg)).elim
    | 1, 2, hi, hj => injection hi with hi; injection hj with hj; subst hi; subst hj; exact (h23 g (own_of hg) (own_of hq)).elim
    | 2, 1, hi, hj => injection hi with hi; injection hj with hj; subst hi; subst hj; exact (h23 g (own_of hq) (own_of hg)).elim
    | i + 3, _, hi, _ => simp at hi
    | _, j + 3, _, hj => simp at hj
  · match j, hj with
    | 0, hj => injection hj with hj; subst hj; exact hn1
    | 1, hj => injection hj with hj; subst hj; exact hn2
    | 2, hj => injection hj with hj; subst hj; exact hn3
    | j + 3, hj => simp at hj
  · match j, hj with
    | 0, hj => injection hj with hj; subst hj; exact .inl (own_of hk)
    | 1, hj => injection hj with hj; subst hj; exact .inr (.inl (own_of hk))
    | 2, hj => injection hj with hj; subst hj; exact .inr (.inr (own_of hk))
    | j + 3, hj => simp at hj
end Go.Proofs.YtfoldjnmknaklaaGreat
