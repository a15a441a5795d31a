/- peatbanklaw09: full, counts, awake. -/
import Derived.Test.YtijmkbhbpbkkoaaGreatCaB
import Derived.Test.YtijmkbhbpbkkoaaGreatDevO
namespace Go.Proofs.YtijmkbhbpbkkoaaGreat
open Go.RowKit

def fulB (b : Int) (i : Nat) : Int := (b + ((i / 100 : Nat) : Int)) % 256
def fulL (b : Int) (n : Nat) : List Int := (List.range n).map (fulB b)
def fulP (b : Int) (n k : Nat) : List Int := (List.range n).map (fun i => if i < k then fulB b i else 0)
theorem fulL_len (b : Int) (n : Nat) : (fulL b n).length = n := by simp [fulL]
theorem fulP_len (b : Int) (n k : Nat) : (fulP b n k).length = n := by simp [fulP]
theorem fulP_all (b : Int) (n : Nat) : fulP b n n = fulL b n := by
  unfold fulP fulL
  refine List.map_congr_left fun i hi => ?_
  rw [if_pos (List.mem_range.1 hi)]
theorem fulP_set (b : Int) (n k : Nat) : (fulP b n k).set k (fulB b k) = fulP b n (k + 1) := by
  apply List.ext_getElem?
  intro i
  unfold fulP
  rw [List.getElem?_set]
  by_cases hk : k = i
  · subst hk
    by_cases hn : k < n
    · simp [hn]
    · simp [hn]
  · rw [if_neg hk]
    simp only [List.getElem?_map]
    by_cases hn : i < n
    · simp only [List.getElem?_range hn, Option.map_some]
      congr 1
      by_cases h : i < k
      · rw [if_pos h, if_pos (by omega)]
      · rw [if_neg h, if_neg (by omega)]
    · rw [List.getElem?_eq_none (by simp; omega)]; rfl
theorem fulP_zero (b : Int) (n : Nat) : Array.replicate n (Value.int .u8 0) = ((fulP b n 0).map (Value.int .u8)).toArray := by
  apply Array.ext
  · simp [fulP]
  · intro i h1 h2; simp [fulP]
/-- one cache of the call's own -/
structure OwnC (w0 w : World) (c b ms mo mk : Nat) (D : Dk) (most now hits misses : Int) (l : KL) (T : TL) : Prop where
  at_ : CAt w c b ms mo mk D most now hits misses l T
  md : Mod Nn w0 w
  fr : ∀ k, InA c b ms mo mk l k → w0.heap.size ≤ k
section
variable {w0 w w' : World} {c b ms mo mk : Nat} {D : Dk} {most now hits misses : Int} {l : KL} {T : TL}
theorem OwnC.step {D' : Dk} {most' now' hits' misses' : Int} {l' : KL} {T' : TL} (h : OwnC w0 w c b ms mo mk D most now hits misses l T) (hd : CAt w' c b ms mo mk D' most' now' hits' misses' l' T') (hT : CTo w w' c b ms mo mk l l') : OwnC w0 w' c b ms mo mk D' most' now' hits' misses' l' T' :=
  ⟨hd, h.md.then_ hT.md (fun k hk hin => by have := h.fr k (inA_of hin); omega), fun k hk => by
    rcases hT.A hk with h1 | h1
    · exact h.fr k h1
    · have := h.md.size; omega⟩
theorem OwnC.quiet (h : OwnC w0 w c b ms mo mk D most now hits misses l T) (hm : Mod Nn w w') : OwnC w0 w' c b ms mo mk D most now hits misses l T := ⟨h.at_.quiet hm, h.md.nn_ hm, h.fr⟩
theorem CAt.hit (h : CAt w c b ms mo mk D most now hits misses l T) (hd : D.down = false) {k : Int} (h0 : 0 ≤ placeL (T.map (·.1)) k) (h1 : placeL (T.map (·.1)) k < most) : (aget l k).isSome = true := by
  have hl := h.lru
  rw [hd] at hl
  have := (hl.place k).2 h0 h1
  cases hx : aget l k with
  | none => exact absurd hx this
  | some x => rfl
theorem CAt.mis (h : CAt w c b ms mo mk D most now hits misses l T) (hd : D.down = false) {k : Int} (h0 : placeL (T.map (·.1)) k < 0) : (aget l k).isSome = false := by
  have hl := h.lru
  rw [hd] at hl
  rw [(hl.place k).1 h0]; rfl
/-- a read of a cache of one's own -/
def OReadP (w0 : World) (w : World) (c b ms mo mk : Nat) (D : Dk) (most now hits misses : Int) (l : KL) (T : TL) (k : Int) (e : Ending) (w' : World) : Prop :=
  ∃ v now' hits' misses' l' T', e = .returned (.tuple #[v, .int .i64 (D.may k)]) ∧ OwnC w0 w' c b ms mo mk D most now' hits' misses' l' T' ∧ RdCnt D k now hits misses l T now' hits' misses' T'
theorem oc_read (h : OwnC w0 w c b ms mo mk D most now hits misses l T) (k : Int) (hn : now ≤ 1152921504606846976) :
    Calls Tryz.prog 46 #[.pointer (some ⟨c, 0, none⟩), .int .i64 k] w (OReadP w0 w c b ms mo mk D most now hits misses l T k) :=
  (cread_any h.at_ k hn).mono fun e w' ⟨v, now', hits', misses', l', T', he, hC, hT, _, _, hc⟩ => ⟨v, now', hits', misses', l', T', he, h.step hC hT, hc⟩
/-- a cache whose device was touched besides, or not -/
theorem CMem.dropped (h : CMem w c b mk most now hits misses []) (hd : DiskAt w b ms mo D) (hs : ∀ k, In3 b ms mo k → ¬ InM c mk [] k) (m1 : 1 ≤ most) (n0 : 0 ≤ now) (h0 : 0 ≤ hits) (s0 : 0 ≤ misses) (hs' : hits + misses ≤ now) :
    CAt w c b ms mo mk D most now hits misses [] [] := ⟨h, hd, (fun e he => by cases he), Lru.nil _ _ (by omega) _, hs, m1, n0, h0, s0, hs'⟩
end

def awT (j : Int) : TL := if j = 0 then [] else if j = 1 then [(0, 1)] else if j = 2 then [(0, 2)] else if j = 3 then [(0, 2), (1, 3)] else [(1, 3), (0, 4)]
def awH (j : Int) : Int := if j ≤ 1 then 0 else if j ≤ 3 then 1 else 2
def awM (j : Int) : Int := if j ≤ 0 then 0 else if j ≤ 2 then 1 else 2
def AwS (w w' : World) (c b ms mo mk : Nat) (j : Int) : Prop := ∃ l, OwnC w w' c b ms mo mk (Dk.new 4) 2 j (awH j) (awM j) l (awT j)
theorem aw_step {w w1 w2 : World} {c b ms mo mk : Nat} {j : Int} (h0 : 0 ≤ j) (h4 : j < 4) {l l' : KL} {now' hits' misses' : Int} {T' : TL} (h : OwnC w w1 c b ms mo mk (Dk.new 4) 2 j (awH j) (awM j) l (awT j))
    (h2 : OwnC w w2 c b ms mo mk (Dk.new 4) 2 now' hits' misses' l' T') (hc : RdCnt (Dk.new 4) (j % 3 / 2) j (awH j) (awM j) l (awT j) now' hits' misses' T') : AwS w w2 c b ms mo mk (j + 1) := by
  have hm : (Dk.new 4).may (j % 3 / 2) = 0 := may_ok rfl (by omega) (by show j % 3 / 2 < 4; omega)
  obtain ⟨e1, e2, e3, e4⟩ := hc.yes hm
  obtain rfl | rfl | rfl | rfl : j = 0 ∨ j = 1 ∨ j = 2 ∨ j = 3 := by omega
  · have hx := h.at_.mis rfl (k := 0) (by decide)
    have hk : (0 : Int) % 3 / 2 = 0 := rfl
    rw [hk, hx] at e3 e4
    rw [hk] at e2
    subst e1 e2 e3 e4
    exact ⟨l', h2⟩
  · have hx := h.at_.hit rfl (k := 0) (by decide) (by decide)
    have hk : (1 : Int) % 3 / 2 = 0 := rfl
    rw [hk, hx] at e3 e4
    rw [hk] at e2
    subst e1 e2 e3 e4
    exact ⟨l', h2⟩
  · have hx := h.at_.mis rfl (k := 1) (by decide)
    have hk : (2 : Int) % 3 / 2 = 1 := rfl
    rw [hk, hx] at e3 e4
    rw [hk] at e2
    subst e1 e2 e3 e4
    exact ⟨l', h2⟩
  · have hx := h.at_.hit rfl (k := 0) (by decide) (by decide)
    have hk : (3 : Int) % 3 / 2 = 0 := rfl
    rw [hk, hx] at e3 e4
    rw [hk] at e2
    subst e1 e2 e3 e4
    exact ⟨l', h2⟩

end Go.Proofs.YtijmkbhbpbkkoaaGreat
