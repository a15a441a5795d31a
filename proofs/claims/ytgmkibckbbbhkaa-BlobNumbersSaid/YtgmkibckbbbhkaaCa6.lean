/- peatbanklaw09: full, counts, awake. -/
import Derived.Test.YtgmkibckbbbhkaaCa5
import Derived.Test.YtgmkibckbbbhkaaDevO
namespace Go.Proofs.Ytgmkibckbbbhkaa
open Go.RowKit

def fulB (b : Int) (i : Nat) : Int := (b + ((i / 100 : Nat) : Int)) % 256
def fulL (b : Int) (n : Nat) : List Int := (List.range n).map (fulB b)
def fulP (b : Int) (n k : Nat) : List Int := (List.range n).map (fun i => if i < k then fulB b i else 0)
theorem fulL_len (b : Int) (n : Nat) : (fulL b n).length = n := by simp [fulL]
theorem fulP_len (b : Int) (n k : Nat) : (fulP b n k).length = n := by simp [fulP]
theorem fulP_all (b : Int) (n : Nat) : fulP b n n = fulL b n := by
  unfold fulP fulL
  refine List.map_congr_left fun i hi => ?_
  rw [if_pos (List.mem_range.1 hi)]
theorem fulP_set (b : Int) (n k : Nat) : (fulP b n k).set k (fulB b k) = fulP b n (k + 1) := by
  apply List.ext_getElem?
  intro i
  unfold fulP
  rw [List.getElem?_set]
  by_cases hk : k = i
  · subst hk
    by_cases hn : k < n
    · simp [hn]
    · simp [hn]
  · rw [if_neg hk]
    simp only [List.getElem?_map]
    by_cases hn : i < n
    · simp only [List.getElem?_range hn, Option.map_some]
      congr 1
      by_cases h : i < k
      · rw [if_pos h, if_pos (by omega)]
      · rw [if_neg h, if_neg (by omega)]
    · rw [List.getElem?_eq_none (by simp; omega)]; rfl
theorem fulP_zero (b : Int) (n : Nat) : Array.replicate n (Value.int .u8 0) = ((fulP b n 0).map (Value.int .u8)).toArray := by
  apply Array.ext
  · simp [fulP]
  · intro i h1 h2; simp [fulP]
set_option maxRecDepth 100000 in
set_option maxHeartbeats 800000 in
theorem ful_any (b : Int) (w : World) (_hb0 : 0 ≤ b) (_hb1 : b ≤ 255) :
    Calls Try.prog 53 #[.int .u8 b] w fun e w' => ∃ g, e = .returned (.slice (some ⟨g, 0, none⟩) 512 512) ∧ Blk w' g 5 ((fulL b 512).map (Value.int .u8)).toArray ∧ w.heap.size ≤ g ∧ Mod Nn w w' := by
  go_enter Try.func53, Try.ntmps53
  go_wp2_with (first
    | (with_reducible change wpList _ _ _ (⟨_, Op.makeSlice _ _ _, _, _, _, _⟩ :: _) _ _
       go_must (refine wpList_make1 35 _ _ rfl rfl 5 (.int .u8 0) 1 Try.underlying35 info_byte rfl 512 512 512 512 rfl rfl rfl rfl (by omega) (by omega) (by omega) ?_)
       intro w1 b1 m1 z1
       rw [fulP_zero b] at b1
       clear z1))
  generalize hg : w.heap.size = g at *
  have HG := Lib.hid hg; clear hg
  go_loopw [4] (fun i wr => ∃ k : Nat, k ≤ 512 ∧ i = .int .i64 k ∧ Blk wr g 5 ((fulP b 512 k).map (Value.int .u8)).toArray ∧ Mod Nn w wr) (fun i _ => 512 - (intOf i).toNat)
  case atStart => exact ⟨0, by omega, rfl, b1, m1⟩
  case round =>
    obtain ⟨k, hk, rfl, hbr, hmr⟩ := hrel
    by_cases hlt : k < 512
    · have hc : wr.cell? ⟨g, k, none⟩ = some (.int .u8 ((fulP b 512 k).getD k 0)) := by
        rw [hbr.cell k]; simp [fulP_len, hlt]
      have hf := hbr.frozen k
      generalize (fulP b 512 k).getD k 0 = old at hc
      go_wp2
      have hb2 := hbr.set_ k (.int .u8 ((b + ↑k / 100) % 256))
      have he : ((fulP b 512 k).map (Value.int .u8)).toArray.setIfInBounds k (.int .u8 ((b + ↑k / 100) % 256)) = ((fulP b 512 (k + 1)).map (Value.int .u8)).toArray := by
        rw [← fulP_set, List.map_set]; simp [fulB]
      rw [he] at hb2
      exact ⟨⟨k + 1, by omega, by go_num, hb2, hmr.setCell (p := ⟨g, k, none⟩) (.inl (by have := HG.out; show w.heap.size ≤ g; omega)) _⟩, by simp [intOf]; omega⟩
    · have hk' : k = 512 := by omega
      have hbf : Blk wr g 5 ((fulL b 512).map (Value.int .u8)).toArray := by
        have : fulP b 512 512 = fulL b 512 := fulP_all b 512
        rw [← this, ← hk']; rw [hk'] at hbr ⊢; exact hbr
      have hlt' : ¬ (k : Int) < 512 := by omega
      clear hk' hbr
      go_wp2
      go_ret
      exact ⟨g, rfl, hbf, by have := HG.out; omega, hmr⟩

/-- one cache of the call's own -/
structure OwnC (w0 w : World) (c b ms mo mk : Nat) (D : Dk) (most now hits misses : Int) (l : KL) (T : TL) : Prop where
  at_ : CAt w c b ms mo mk D most now hits misses l T
  md : Mod Nn w0 w
  fr : ∀ k, InA c b ms mo mk l k → w0.heap.size ≤ k
section
variable {w0 w w' : World} {c b ms mo mk : Nat} {D : Dk} {most now hits misses : Int} {l : KL} {T : TL}
theorem OwnC.step {D' : Dk} {most' now' hits' misses' : Int} {l' : KL} {T' : TL} (h : OwnC w0 w c b ms mo mk D most now hits misses l T) (hd : CAt w' c b ms mo mk D' most' now' hits' misses' l' T') (hT : CTo w w' c b ms mo mk l l') : OwnC w0 w' c b ms mo mk D' most' now' hits' misses' l' T' :=
  ⟨hd, h.md.then_ hT.md (fun k hk hin => by have := h.fr k (inA_of hin); omega), fun k hk => by
    rcases hT.A hk with h1 | h1
    · exact h.fr k h1
    · have := h.md.size; omega⟩
theorem OwnC.quiet (h : OwnC w0 w c b ms mo mk D most now hits misses l T) (hm : Mod Nn w w') : OwnC w0 w' c b ms mo mk D most now hits misses l T := ⟨h.at_.quiet hm, h.md.nn_ hm, h.fr⟩
theorem CAt.hit (h : CAt w c b ms mo mk D most now hits misses l T) (hd : D.down = false) {k : Int} (h0 : 0 ≤ placeL (T.map (·.1)) k) (h1 : placeL (T.map (·.1)) k < most) : (aget l k).isSome = true := by
  have hl := h.lru
  rw [hd] at hl
  have := (hl.place k).2 h0 h1
  cases hx : aget l k with
  | none => exact absurd hx this
  | some x => rfl
theorem CAt.mis (h : CAt w c b ms mo mk D most now hits misses l T) (hd : D.down = false) {k : Int} (h0 : placeL (T.map (·.1)) k < 0) : (aget l k).isSome = false := by
  have hl := h.lru
  rw [hd] at hl
  rw [(hl.place k).1 h0]; rfl
/-- a read of a cache of one's own -/
def OReadP (w0 : World) (w : World) (c b ms mo mk : Nat) (D : Dk) (most now hits misses : Int) (l : KL) (T : TL) (k : Int) (e : Ending) (w' : World) : Prop :=
  ∃ v now' hits' misses' l' T', e = .returned (.tuple #[v, .int .i64 (D.may k)]) ∧ OwnC w0 w' c b ms mo mk D most now' hits' misses' l' T' ∧ RdCnt D k now hits misses l T now' hits' misses' T'
theorem oc_read (h : OwnC w0 w c b ms mo mk D most now hits misses l T) (k : Int) (hn : now ≤ 1152921504606846976) :
    Calls Try.prog 50 #[.pointer (some ⟨c, 0, none⟩), .int .i64 k] w (OReadP w0 w c b ms mo mk D most now hits misses l T k) :=
  (cread_any h.at_ k hn).mono fun e w' ⟨v, now', hits', misses', l', T', he, hC, hT, _, _, hc⟩ => ⟨v, now', hits', misses', l', T', he, h.step hC hT, hc⟩
/-- a cache whose device was touched besides, or not -/
theorem CMem.dropped (h : CMem w c b mk most now hits misses []) (hd : DiskAt w b ms mo D) (hs : ∀ k, In3 b ms mo k → ¬ InM c mk [] k) (m1 : 1 ≤ most) (n0 : 0 ≤ now) (h0 : 0 ≤ hits) (s0 : 0 ≤ misses) (hs' : hits + misses ≤ now) :
    CAt w c b ms mo mk D most now hits misses [] [] := ⟨h, hd, (fun e he => by cases he), Lru.nil _ _ (by omega) _, hs, m1, n0, h0, s0, hs'⟩
set_option maxRecDepth 100000 in
set_option maxHeartbeats 400000 in
theorem counts_any (h : CAt w c b ms mo mk D most now hits misses l T) (x y : Int) :
    Calls Try.prog 79 #[.pointer (some ⟨c, 0, none⟩), .int .i64 x, .int .i64 y] w fun e w' => e = .returned (.bool (decide (hits = x ∧ misses = y))) ∧ Mod Nn w w' := by
  by_cases h1 : hits = x
  · subst h1
    by_cases h2 : misses = y
    · subst h2
      rw [decide_eq_true (And.intro rfl rfl)]
      go_enter Try.func79, Try.ntmps79
      go_wp2_with fail
      refine (ccounts_any h.mem h.m1).mono ?_
      rintro e w1 ⟨rfl, m1⟩
      clear h
      go_wp2
      go_ret
      exact ⟨rfl, m1⟩
    · rw [decide_eq_false (fun e => h2 e.2)]
      have h2' : (misses == y) = false := by rw [beq_eq_false_iff_ne]; exact h2
      go_enter Try.func79, Try.ntmps79
      go_wp2_with fail
      refine (ccounts_any h.mem h.m1).mono ?_
      rintro e w1 ⟨rfl, m1⟩
      clear h
      go_wp2
      go_ret
      exact ⟨rfl, m1⟩
  · rw [decide_eq_false (fun e => h1 e.1)]
    have h1' : (hits == x) = false := by rw [beq_eq_false_iff_ne]; exact h1
    go_enter Try.func79, Try.ntmps79
    go_wp2_with fail
    refine (ccounts_any h.mem h.m1).mono ?_
    rintro e w1 ⟨rfl, m1⟩
    clear h
    go_wp2
    go_ret
    exact ⟨rfl, m1⟩
end

def awT (j : Int) : TL := if j = 0 then [] else if j = 1 then [(0, 1)] else if j = 2 then [(0, 2)] else if j = 3 then [(0, 2), (1, 3)] else [(1, 3), (0, 4)]
def awH (j : Int) : Int := if j ≤ 1 then 0 else if j ≤ 3 then 1 else 2
def awM (j : Int) : Int := if j ≤ 0 then 0 else if j ≤ 2 then 1 else 2
def AwS (w w' : World) (c b ms mo mk : Nat) (j : Int) : Prop := ∃ l, OwnC w w' c b ms mo mk (Dk.new 4) 2 j (awH j) (awM j) l (awT j)
theorem aw_step {w w1 w2 : World} {c b ms mo mk : Nat} {j : Int} (h0 : 0 ≤ j) (h4 : j < 4) {l l' : KL} {now' hits' misses' : Int} {T' : TL} (h : OwnC w w1 c b ms mo mk (Dk.new 4) 2 j (awH j) (awM j) l (awT j))
    (h2 : OwnC w w2 c b ms mo mk (Dk.new 4) 2 now' hits' misses' l' T') (hc : RdCnt (Dk.new 4) (j % 3 / 2) j (awH j) (awM j) l (awT j) now' hits' misses' T') : AwS w w2 c b ms mo mk (j + 1) := by
  have hm : (Dk.new 4).may (j % 3 / 2) = 0 := may_ok rfl (by omega) (by show j % 3 / 2 < 4; omega)
  obtain ⟨e1, e2, e3, e4⟩ := hc.yes hm
  obtain rfl | rfl | rfl | rfl : j = 0 ∨ j = 1 ∨ j = 2 ∨ j = 3 := by omega
  · have hx := h.at_.mis rfl (k := 0) (by decide)
    have hk : (0 : Int) % 3 / 2 = 0 := rfl
    rw [hk, hx] at e3 e4
    rw [hk] at e2
    subst e1 e2 e3 e4
    exact ⟨l', h2⟩
  · have hx := h.at_.hit rfl (k := 0) (by decide) (by decide)
    have hk : (1 : Int) % 3 / 2 = 0 := rfl
    rw [hk, hx] at e3 e4
    rw [hk] at e2
    subst e1 e2 e3 e4
    exact ⟨l', h2⟩
  · have hx := h.at_.mis rfl (k := 1) (by decide)
    have hk : (2 : Int) % 3 / 2 = 1 := rfl
    rw [hk, hx] at e3 e4
    rw [hk] at e2
    subst e1 e2 e3 e4
    exact ⟨l', h2⟩
  · have hx := h.at_.hit rfl (k := 0) (by decide) (by decide)
    have hk : (3 : Int) % 3 / 2 = 0 := rfl
    rw [hk, hx] at e3 e4
    rw [hk] at e2
    subst e1 e2 e3 e4
    exact ⟨l', h2⟩

set_option maxRecDepth 100000 in
set_option maxHeartbeats 3200000 in
theorem cawake_any (w : World) : Calls Try.prog 48 #[] w fun e w' => e = .returned (.bool true) ∧ Mod Nn w w' := by
  go_enter Try.func48, Try.ntmps48
  go_wp2_with fail
  refine (new_any 4 _ (by omega) (by omega)).mono ?_
  rintro e w1 ⟨b, ms, mo, rfl, hd1, m1, hfr⟩
  go_wp2_with fail
  refine (cnew_any hd1 2 (by omega)).mono ?_
  rintro e w2 ⟨c, mk, rfl, hC2, m2, hc2, hmk2⟩
  have hS : AwS w w2 c b ms mo mk 0 := ⟨[], hC2, m1.nn_ m2, fun k hk => by
    have hz := m1.size
    rcases hk with (rfl | rfl | ⟨e, he, -⟩) | hk
    · omega
    · omega
    · cases he
    · exact hfr k hk⟩
  clear hd1 m1 hfr hC2 m2 hc2 hmk2
  go_wp2
  go_loopw [2] (fun i wr => ∃ j : Int, 0 ≤ j ∧ j ≤ 4 ∧ i = .int .i64 j ∧ AwS w wr c b ms mo mk j) (fun i _ => (4 - intOf i).toNat)
  case atStart => exact ⟨0, by omega, by omega, rfl, hS⟩
  case round =>
    clear hS
    obtain ⟨j, hj0, hj4, rfl, l, hO⟩ := hrel
    obtain ⟨wo, rfl⟩ : ∃ wo : World, wo = wr := ⟨_, rfl⟩
    by_cases hlt : j < 4
    · have hm : (Dk.new 4).may (j % 3 / 2) = 0 := may_ok rfl (by omega) (by show j % 3 / 2 < 4; omega)
      have HM := Lib.hid hm; clear hm
      go_wp2_with fail
      refine (oc_read hO (j % 3 / 2) (by omega)).mono ?_
      rintro e w3 ⟨v, now', hits', misses', l', T', rfl, h3, hc⟩
      rw [HM.out]
      have HS := Lib.hid (aw_step hj0 hlt hO h3 hc)
      clear hO h3 hc
      go_wp2
      exact ⟨⟨j + 1, by omega, by omega, rfl, HS.out⟩, by simp [intOf]; omega⟩
    · obtain rfl : j = 4 := by omega
      clear hlt hj0 hj4
      have hO' : OwnC w wo c b ms mo mk (Dk.new 4) 2 4 2 2 l [(1, 3), (0, 4)] := hO
      clear hO
      go_wp2_with fail
      refine (counts_any hO'.at_ 2 2).mono ?_
      rintro e w3 ⟨rfl, m3⟩
      rw [decide_eq_true (And.intro rfl rfl)]
      have h3 := hO'.quiet m3
      clear hO' m3
      go_wp2_with fail
      refine (oc_read h3 2 (by omega)).mono ?_
      rintro e w4 ⟨v4, now4, hits4, misses4, l4, T4, rfl, h4, hc4⟩
      obtain ⟨e1, e2, e3, e4⟩ := hc4.yes rfl
      rw [h3.at_.mis rfl (k := 2) (by decide)] at e3 e4
      have h4' : OwnC w w4 c b ms mo mk (Dk.new 4) 2 5 2 3 l4 [(1, 3), (0, 4), (2, 5)] := by
        subst e1 e2 e3 e4; exact h4
      clear h4 hc4 e1 e2 e3 e4 h3
      go_wp2_with fail
      refine (oc_read h4' 0 (by omega)).mono ?_
      rintro e w5 ⟨v5, now5, hits5, misses5, l5, T5, rfl, h5, hc5⟩
      obtain ⟨e1, e2, e3, e4⟩ := hc5.yes rfl
      rw [h4'.at_.hit rfl (k := 0) (by decide) (by decide)] at e3 e4
      have h5' : OwnC w w5 c b ms mo mk (Dk.new 4) 2 6 3 3 l5 [(1, 3), (2, 5), (0, 6)] := by
        subst e1 e2 e3 e4; exact h5
      clear h5 hc5 e1 e2 e3 e4 h4'
      go_wp2_with fail
      refine (counts_any h5'.at_ 3 3).mono ?_
      rintro e w6 ⟨rfl, m6⟩
      rw [decide_eq_true (And.intro rfl rfl)]
      have h6 := h5'.quiet m6
      clear h5' m6
      go_wp2_with fail
      refine (cdrop_any h6.at_.mem (by omega)).mono ?_
      rintro e w7 ⟨rfl, hC7, m7, -⟩
      have h7 : OwnC w w7 c b ms mo mk (Dk.new 4) 2 6 3 3 [] [] := ⟨hC7.dropped (h6.at_.d.mod m7 (fun k hk e => h6.at_.sep k hk (.inr (.inl e)))) (fun k hk hin => h6.at_.sep k hk (by
        rcases hin with hin | hin | ⟨e, he, -⟩
        · exact .inl hin
        · exact .inr (.inl hin)
        · cases he)) (by omega) (by omega) (by omega) (by omega) (by omega), h6.md.then_ m7 (fun k hk e => by have := h6.fr k (.inl (.inr (.inl e))); omega), fun k hk => by
          rcases hk with (hk | hk | ⟨e, he, -⟩) | hk
          · exact h6.fr k (.inl (.inl hk))
          · exact h6.fr k (.inl (.inr (.inl hk)))
          · cases he
          · exact h6.fr k (.inr hk)⟩
      clear h6 hC7 m7
      go_wp2_with fail
      refine (oc_read h7 0 (by omega)).mono ?_
      rintro e w8 ⟨v8, now8, hits8, misses8, l8, T8, rfl, h8, hc8⟩
      obtain ⟨e1, e2, e3, e4⟩ := hc8.yes rfl
      rw [h7.at_.mis rfl (k := 0) (by decide)] at e3 e4
      have h8' : OwnC w w8 c b ms mo mk (Dk.new 4) 2 7 3 4 l8 [(0, 7)] := by
        subst e1 e2 e3 e4; exact h8
      clear h8 hc8 e1 e2 e3 e4 h7
      go_wp2_with fail
      refine (oc_read h8' (-1) (by omega)).mono ?_
      rintro e w9 ⟨v9, now9, hits9, misses9, l9, T9, rfl, h9, hc9⟩
      obtain ⟨e1, e2, e3, e4⟩ := hc9.no (by decide)
      have h9' : OwnC w w9 c b ms mo mk (Dk.new 4) 2 7 3 4 l9 [(0, 7)] := by
        subst e1 e2 e3 e4; exact h9
      clear h9 hc9 e1 e2 e3 e4 h8'
      rw [show (Dk.new 4).may (-1) = 6 from by decide]
      go_wp2_with fail
      refine (counts_any h9'.at_ 3 4).mono ?_
      rintro e w10 ⟨rfl, m10⟩
      rw [decide_eq_true (And.intro rfl rfl)]
      have h10 := h9'.quiet m10
      clear h9' m10
      go_wp2_with fail
      refine (csectors_any h10.at_).mono ?_
      rintro e w11 ⟨rfl, rfl⟩
      rw [show (Dk.new 4).n = 4 from rfl]
      go_wp2_with fail
      refine (cnew_nil 1 _).mono ?_
      rintro e w11 ⟨rfl, rfl⟩
      go_wp2_with fail
      refine (new_any 1 _ (by omega) (by omega)).mono ?_
      rintro e w11 ⟨b2, ms2, mo2, rfl, hd11, m11, -⟩
      go_wp2_with fail
      refine (cnew_small hd11 0 (by omega)).mono ?_
      rintro e w12 ⟨rfl, rfl⟩
      have M := h10.md.nn_ m11
      clear h10 m11 hd11
      go_wp2
      go_ret
      exact ⟨rfl, M⟩
end Go.Proofs.Ytgmkibckbbbhkaa
