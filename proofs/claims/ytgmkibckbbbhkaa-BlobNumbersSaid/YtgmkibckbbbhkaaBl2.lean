/- A range over blob.sectors: the law of the statement, at this iterator (turned from the library's law on a range over a function: the iterator keeps its state in two boxes, the body writes maps). -/
import Derived.Test.YtgmkibckbbbhkaaBl1
namespace Go.Proofs.Ytgmkibckbbbhkaa
open Go.RowKit Go.Shelf

/-- how the body of a round may be left -/
def secPost (d : Nat) (I Ix : World → Prop) (S : World → Prop) (W : World) : Exit → Act → World → Prop
  | .normal, _, W' => (W'.heap[d]? = W.heap[d]? ∧ W'.heap[d + 1]? = W.heap[d + 1]?) ∧ I W' ∧ S W'
  | .ret, _, W' => (W'.heap[d]? = W.heap[d]? ∧ W'.heap[d + 1]? = W.heap[d + 1]?) ∧ Ix W'
  | _, _, _ => False
theorem putObj_mod (W : World) (l : Nat) (o : Obj) : Mod (At l) W (W.putObj l o) :=
  ⟨rfl, rfl, rfl, by simp, fun k _ hn => World.putObj_heap_other (fun e => hn e)⟩
set_option maxRecDepth 100000 in
set_option maxHeartbeats 3200000 in
theorem range_secs {g : Operand} {ps : Array Tmp} {assign body : Code} {Q : Exit → Act → World → Prop} {a : Act} {w : World} {Ba Bb m n c : Nat} {at0 : Int} {A : Option Addr} {bs : List Int}
    (hps : ps.size = 2) (hg : a.eval g = .func (.func 119) #[] #[.pointer (some ⟨Bb, 0, none⟩), .pointer (some ⟨Ba, 0, none⟩)])
    (hn : n = 512 * m) (hnc : n ≤ c) (hab : Ba ≠ Bb) (hAa : ∀ g, Of A g → g ≠ Ba ∧ g ≠ Bb) (h0 : 0 ≤ at0) (h1 : at0 + m ≤ 1152921504606846976) (hcm : c ≤ 1152921504606846976)
    (hAl : ∀ g, Of A g → g < w.heap.size) (hS0 : SC w Ba Bb at0 A n c bs 0 A)
    (I Ix : Nat → World → Prop)
    (hI : ∀ i W W', I i W → Mod (fun k => k = Ba ∨ k = Bb ∨ k = w.heap.size ∨ k = w.heap.size + 1) W W' → I i W')
    (hIx : ∀ i W W', Ix i W → Mod (fun k => k = w.heap.size ∨ k = w.heap.size + 1) W W' → Ix i W')
    (hi0 : I 0 w) (a₁ : Nat → Option Addr → Act)
    (hassign : ∀ (l i : Nat) (Ai : Option Addr) (W : World) (K : Act → World → Prop), K (a₁ i Ai) W →
      assign.wpIn (Fence.wide.inRound l) 1 Try.prog (Exit.then K (fun _ _ _ => False)) { tmps := (ps.zip #[.int .i64 (at0 + i), .slice Ai 512 (c - 512 * i)]).foldl (fun t (p, v) => t.setIfInBounds p v) a.tmps, defers := [] } W)
    (hbody : ∀ (l i : Nat) (Ai : Option Addr) (W : World), i < m → I i W → w.heap.size + 1 < W.heap.size → SC W Ba Bb at0 A n c bs i Ai →
      body.wpIn (Fence.wide.inRound l) 1 Try.prog (secPost w.heap.size (I (i + 1)) (Ix (i + 1)) (fun W' => SC W' Ba Bb at0 A n c bs i Ai) W) (a₁ i Ai) W)
    (hdone : ∀ (W : World), I m W → W.heap[w.heap.size]? = some (.deferred (some [])) → Q .normal { a with defers := { target := .collected w.heap.size, args := #[] } :: a.defers } W)
    (hstop : ∀ (i : Nat) (W : World), i ≤ m → Ix i W → W.heap[w.heap.size]? = some (.deferred (some [])) → Code.ret.wpIn Fence.wide 3 Try.prog Q { a with defers := { target := .collected w.heap.size, args := #[] } :: a.defers } W) :
    (Code.rangeFunc g ps assign body).wpIn Fence.wide 3 Try.prog Q a w := by
  refine wpIn_rangeFunc ?_
  intro fn hfn
  have hro : Fence.wide.round = none := rfl
  rw [hro]
  have hbl := hS0.b.lt
  have hal := hS0.a.lt
  obtain ⟨rec, hrec⟩ : ∃ rec : LoopState → Option Code → Loop, rec = fun st pe => { state := st, pending := pe, fn, tmps := a.tmps, params := ps, assign, body, defers := w.heap.size } := ⟨_, rfl⟩
  obtain ⟨W1, hW1⟩ : ∃ W1, (w.alloc (.deferred (some []))).alloc (.loop (rec .ready none)) = W1 := ⟨_, rfl⟩
  have hL1 : W1.heap[w.heap.size + 1]? = some (.loop (rec .ready none)) := by
    rw [← hW1]; have := World.alloc_heap_new (w.alloc (.deferred (some []))) (.loop (rec .ready none)); rwa [World.size_alloc] at this
  have hK1 : W1.heap[w.heap.size]? = some (.deferred (some [])) := by
    rw [← hW1]; exact (Below.heap_alloc _ _ _ (by simp)).trans (World.alloc_heap_new w _)
  have mW1 : Mod Nn w W1 := by rw [← hW1]; exact ((Mod.refl _ _).alloc _).alloc _
  have hI1 : I 0 W1 := hI 0 _ _ hi0 mW1.nn
  have hS1 : SC W1 Ba Bb at0 A n c bs 0 A := hS0.mod mW1 (fun f => f) (fun f => f) (fun _ _ f => f)
  refine ⟨w.heap.size + 1, [{ target := .collected w.heap.size, args := #[] }], W1, { target := .fn (.func 119) #[.pointer (some ⟨Bb, 0, none⟩), .pointer (some ⟨Ba, 0, none⟩)], args := #[.func (.yield (w.heap.size + 1)) #[] #[]] }, W1, 119,
    #[.func (.yield (w.heap.size + 1)) #[] #[], .pointer (some ⟨Bb, 0, none⟩), .pointer (some ⟨Ba, 0, none⟩)], W1, ?_, ?_, ?_, ?_, fun _ => by omega, ?_⟩
  · rw [← hW1, hrec]; exact run_enterLoop_outer _ _ _ _ _
  · simp only [resolve, hg]
    simp [go_sem]
  · intro f' _; trivial
  · simp [invoke, go_sem, enters_of Try.func119 (by kernel_rfl) rfl]
  · refine (secs_in (w.heap.size + 1) Ba Bb m n c at0 A bs
      (fun i W => I i W ∧ W.heap[w.heap.size + 1]? = some (.loop (rec .ready none)) ∧ W.heap[w.heap.size]? = some (.deferred (some [])))
      (fun i W => Ix i W ∧ W.heap[w.heap.size + 1]? = some (.loop (rec .done (some .ret))) ∧ W.heap[w.heap.size]? = some (.deferred (some [])))
      hn hnc hab hAa h0 h1 hcm ?_ ?_ W1 ⟨hI1, hL1, hK1⟩ hS1).mono ?_
    · rintro i W W' ⟨h2, h3, h4⟩ hm
      have hl : w.heap.size + 1 < W.heap.size := (Array.getElem?_eq_some_iff.1 h3).1
      exact ⟨hI _ _ _ h2 (hm.mono (fun k _ hk => hk.elim .inl (fun h => .inr (.inl h)))), (hm.block _ hl (fun e => by rcases e with e | e <;> omega)).trans h3, (hm.block _ (by omega) (fun e => by rcases e with e | e <;> omega)).trans h4⟩
    · rintro i W Ai hi ⟨h2, h3, h4⟩ hS
      have hlt : w.heap.size + 1 < W.heap.size := (Array.getElem?_eq_some_iff.1 h3).1
      have hy := run_yield (P := Try.prog) (args := #[.int .i64 (at0 + i), .slice Ai 512 (c - 512 * i)]) h3 (by rw [hrec]; exact hps.symm)
      rw [hrec] at hy
      refine ⟨fn, _, assign, body, hy, roundIn_of_wpIn hfn (hassign _ i Ai W _ ⟨_, run_beginRound h3 (by rw [hrec]), ?_⟩)⟩
      have mb : Mod (At (w.heap.size + 1)) W (W.putObj (w.heap.size + 1) (.loop { rec .ready none with state := .busy })) := putObj_mod _ _ _
      have hl2 : (W.putObj (w.heap.size + 1) (.loop { rec .ready none with state := .busy })).heap[w.heap.size + 1]? = some (.loop { rec .ready none with state := .busy }) := World.putObj_heap_same hlt
      have hk2 : (W.putObj (w.heap.size + 1) (.loop { rec .ready none with state := .busy })).heap[w.heap.size]? = some (.deferred (some [])) := (World.putObj_heap_other (by omega)).trans h4
      refine wpIn_mono (hbody _ i Ai _ hi (hI _ _ _ h2 (mb.mono (fun k _ hk => .inr (.inr (.inr hk))))) (by simp; exact hlt) (hS.mod mb (fun e => by have e : Ba = w.heap.size + 1 := e; omega) (fun e => by have e : Bb = w.heap.size + 1 := e; omega) (fun g hg e => by have := hAl g hg; have e : g = w.heap.size + 1 := e; omega))) ?_
      rintro e a3 W3 hp
      cases e with
      | normal =>
        obtain ⟨⟨k1, k2⟩, hi3, hs3⟩ := hp
        have hl3 := k2.trans hl2
        have hk3 := k1.trans hk2
        have hr := run_endRound (P := Try.prog) none hl3
        have m3 := putObj_mod W3 (w.heap.size + 1) (.loop { rec .ready none with state := if (none : Option Code).isNone then .ready else .done, pending := none })
        refine ⟨_, _, hr, true, rfl, fun _ => ⟨⟨hI _ _ _ hi3 (m3.mono (fun k _ hk => .inr (.inr (.inr hk)))), ?_, ?_⟩, ?_⟩, fun h => by cases h⟩
        · refine (World.putObj_heap_same (Array.getElem?_eq_some_iff.1 hl3).1).trans ?_
          rw [hrec]; rfl
        · exact (World.putObj_heap_other (by omega)).trans hk3
        · exact hs3.mod m3 (fun e => by have e : Ba = w.heap.size + 1 := e; omega) (fun e => by have e : Bb = w.heap.size + 1 := e; omega) (fun g hg e => by have := hAl g hg; have e : g = w.heap.size + 1 := e; omega)
      | ret =>
        obtain ⟨⟨k1, k2⟩, hi3⟩ := hp
        have hl3 := k2.trans hl2
        have hk3 := k1.trans hk2
        have hr := run_endRound (P := Try.prog) (some .ret) hl3
        have m3 := putObj_mod W3 (w.heap.size + 1) (.loop { rec .ready none with state := if (some Code.ret).isNone then .ready else .done, pending := some .ret })
        refine ⟨_, _, hr, false, rfl, (fun h => by cases h), fun _ => ⟨hIx _ _ _ hi3 (m3.mono (fun k _ hk => .inr hk)), ?_, ?_⟩⟩
        · refine (World.putObj_heap_same (Array.getElem?_eq_some_iff.1 hl3).1).trans ?_
          rw [hrec]; rfl
        · exact (World.putObj_heap_other (by omega)).trans hk3
      | exit id => exact hp.elim
      | goto t => exact hp.elim
      | panic ch => exact hp.elim
      | outgrown => exact hp.elim
    · rintro e W2 ⟨⟨v, rfl⟩, (⟨hi, hl, hk⟩ | ⟨i, him, hi, hl, hk⟩)⟩
      · exact ⟨none, _, by have := run_endLoop (P := Try.prog) hl (by rw [hrec]; simp); rw [hrec] at this; exact this, hdone _ (hI _ _ _ hi ((putObj_mod _ _ _).mono (fun k _ hk => .inr (.inr (.inr hk))))) ((World.putObj_heap_other (by omega)).trans hk)⟩
      · exact ⟨some .ret, _, by have := run_endLoop (P := Try.prog) hl (by rw [hrec]; simp); rw [hrec] at this; exact this, hstop i _ him (hIx _ _ _ hi ((putObj_mod _ _ _).mono (fun k _ hk => .inr hk))) ((World.putObj_heap_other (by omega)).trans hk)⟩
end Go.Proofs.Ytgmkibckbbbhkaa
