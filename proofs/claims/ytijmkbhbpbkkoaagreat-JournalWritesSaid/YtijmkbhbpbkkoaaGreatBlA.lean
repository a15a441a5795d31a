/- Own lemmas of several kinds, put together: Bl1, Bl2, Bl3, Bl4. -/
import Derived.Test.YtijmkbhbpbkkoaaGreatCaB
import Derived.RangeFuncNested
import Derived.RangeFuncBound
import Derived.RangeFuncCalls
import Derived.RangeFuncLeaves
import Derived.Shelf.Abstract
import Derived.Shelf.RegionOpen
import Derived.OwnWalkIn
import Derived.TacticsInMore
import Derived.LoopNIn
import Derived.LoopIn
/- blob.sectors: the iterator over a row's sectors; its closure, for every loop body that leaves the two boxes and the row alone. -/
namespace Go.Proofs.YtijmkbhbpbkkoaaGreat
open Go.RowKit Go.Shelf
attribute [local go_sem] Oper.semAt_some

/-- the two boxes of the closure, i sectors having come -/
structure SC (W : World) (Ba Bb : Nat) (at0 : Int) (A : Option Addr) (n c : Nat) (bs : List Int) (i : Nat) (Ai : Option Addr) : Prop where
  a : Blk W Ba 3 #[.int .i64 (at0 + i)]
  b : Blk W Bb 29 #[.slice Ai (n - 512 * i) (c - 512 * i)]
  o : ∀ g, Of Ai g → Of A g
  r : Rd W Ai (n - 512 * i) ((bs.drop (512 * i)).map (Value.int .u8))
theorem SC.mod {W W' : World} {Ba Bb : Nat} {at0 : Int} {A Ai : Option Addr} {n c i : Nat} {bs : List Int} {S : Nat → Prop} (h : SC W Ba Bb at0 A n c bs i Ai) (hm : Mod S W W') (h1 : ¬ S Ba) (h2 : ¬ S Bb) (h3 : ∀ g, Of A g → ¬ S g) : SC W' Ba Bb at0 A n c bs i Ai :=
  ⟨h.a.mod hm h1, h.b.mod hm h2, h.o, h.r.mod hm (fun g hg => h3 g (h.o g hg))⟩
def nxt (A : Option Addr) (p : Nat) : Option Addr := if p = 512 then A else Option.map (fun x => { block := x.block, off := x.off + 512 }) A
theorem nxt_of {A : Option Addr} {p g : Nat} (h : Of (nxt A p) g) : Of A g := by
  unfold nxt at h
  split at h
  · exact h
  · cases A with
    | none => obtain ⟨a, ha, _⟩ := h; cases ha
    | some a => obtain ⟨b, hb, hbg⟩ := h; injection hb with hb; subst hb; exact ⟨a, rfl, hbg⟩
theorem nxt_rd {w : World} {A : Option Addr} {p q : Nat} {xs : List Value} (h : Rd w A q xs) (hq : 512 ≤ q) (hp : q ≤ p) : Rd w (nxt A p) (q - 512) (xs.drop 512) := by
  have h1 := h.post (c := p) 512 hq hp
  refine ⟨h1.1, fun hpos => ?_⟩
  obtain ⟨g, off, rfl, hc⟩ := h.2 (by omega)
  obtain ⟨g', off', hA, hc'⟩ := h1.2 hpos
  refine ⟨g', off', ?_, hc'⟩
  rw [← hA]
  unfold nxt subA
  rw [if_neg (by omega), if_neg (by omega)]
  rfl
theorem SC.next {W : World} {Ba Bb : Nat} {at0 : Int} {A Ai : Option Addr} {n c i m : Nat} {bs : List Int} (h : SC W Ba Bb at0 A n c bs i Ai) (hn : n = 512 * m) (hi : i < m) (hnc : n ≤ c) (hab : Ba ≠ Bb) (hA : ∀ g, Of A g → g ≠ Ba ∧ g ≠ Bb) :
    SC ((W.setCell ⟨Bb, 0, none⟩ (.slice (nxt Ai (c - 512 * i)) (n - 512 * i - 512) (c - 512 * i - 512))).setCell ⟨Ba, 0, none⟩ (.int .i64 (at0 + i + 1))) Ba Bb at0 A n c bs (i + 1) (nxt Ai (c - 512 * i)) := by
  have m1 : Mod (At Bb) W (W.setCell ⟨Bb, 0, none⟩ (.slice (nxt Ai (c - 512 * i)) (n - 512 * i - 512) (c - 512 * i - 512))) := Mod.cellAt _ _ _ _
  have m2 : Mod (At Ba) (W.setCell ⟨Bb, 0, none⟩ (.slice (nxt Ai (c - 512 * i)) (n - 512 * i - 512) (c - 512 * i - 512))) ((W.setCell ⟨Bb, 0, none⟩ (.slice (nxt Ai (c - 512 * i)) (n - 512 * i - 512) (c - 512 * i - 512))).setCell ⟨Ba, 0, none⟩ (.int .i64 (at0 + i + 1))) := Mod.cellAt _ _ _ _
  have hb := (h.b.set_ 0 (.slice (nxt Ai (c - 512 * i)) (n - 512 * i - 512) (c - 512 * i - 512))).mod m2 (fun e => hab (e : Bb = Ba).symm)
  have ha := (h.a.mod m1 (fun e => hab (e : Ba = Bb))).set_ 0 (.int .i64 (at0 + i + 1))
  have hr := (nxt_rd h.r (p := c - 512 * i) (by omega) (by omega)).mod m1 (fun g hg e => (hA g (h.o g (nxt_of hg))).2 e)
  have hr2 := hr.mod m2 (fun g hg e => (hA g (h.o g (nxt_of hg))).1 e)
  refine ⟨?_, ?_, fun g hg => h.o g (nxt_of hg), ?_⟩
  · have e : at0 + ((i + 1 : Nat) : Int) = at0 + i + 1 := by omega
    rw [e]; exact ha
  · rw [show n - 512 * (i + 1) = n - 512 * i - 512 from by omega, show c - 512 * (i + 1) = c - 512 * i - 512 from by omega]; exact hb
  · rw [show n - 512 * (i + 1) = n - 512 * i - 512 from by omega, show 512 * (i + 1) = 512 * i + 512 from by omega]
    rw [← List.map_drop, List.drop_drop] at hr2
    exact hr2
def RndP (J Jx S : World → Prop) (ok : Bool) (W : World) : Prop := (ok = true → J W ∧ S W) ∧ (ok = false → Jx W)
theorem sectors_it (at0 : Int) (v : Value) (hv : v.oneCell' = true) (hvc : v.cells = #[v]) (w : World) :
    Calls Tryz.prog 43 #[.int .i64 at0, v] w fun e w' => e = .returned (.func (.func 59) #[] #[.pointer (some ⟨w.heap.size + 1, 0, none⟩), .pointer (some ⟨w.heap.size, 0, none⟩)]) ∧ (w.alloc (.cells #[.int .i64 at0] 3)).alloc (.cells #[v] 29) = w' := by
  go_enter Tryz.func43, Tryz.ntmps43
  go_wp2
  go_ret
  exact ⟨rfl, rfl⟩

set_option maxRecDepth 100000 in
set_option maxHeartbeats 3200000 in
theorem secs_in (l Ba Bb m n c : Nat) (at0 : Int) (A : Option Addr) (bs : List Int) (J Jx : Nat → World → Prop) (hn : n = 512 * m) (hnc : n ≤ c) (hab : Ba ≠ Bb) (hAa : ∀ g, Of A g → g ≠ Ba ∧ g ≠ Bb) (h0 : 0 ≤ at0) (h1 : at0 + m ≤ 1152921504606846976) (hcm : c ≤ 1152921504606846976)
    (hJ : ∀ i W W', J i W → Mod (fun k => k = Ba ∨ k = Bb) W W' → J i W')
    (hY : ∀ i W Ai, i < m → J i W → SC W Ba Bb at0 A n c bs i Ai → YieldAt Fence.wide 1 Tryz.prog l #[.int .i64 (at0 + i), .slice Ai 512 (c - 512 * i)] W fun e W' =>
      ∃ ok : Bool, e = .returned (.bool ok) ∧ RndP (J (i + 1)) (Jx (i + 1)) (fun W => SC W Ba Bb at0 A n c bs i Ai) ok W')
    (W : World) (hJ0 : J 0 W) (hS0 : SC W Ba Bb at0 A n c bs 0 A) :
    CallsIn Fence.wide 2 Tryz.prog 59 #[.func (.yield l) #[] #[], .pointer (some ⟨Bb, 0, none⟩), .pointer (some ⟨Ba, 0, none⟩)] W fun e W' => (∃ v, e = .returned v) ∧ (J m W' ∨ ∃ i, i ≤ m ∧ Jx i W') := by
  refine callsIn_of_wp Tryz.func59 rfl trivial ?_ rfl
  simp only [Tryz.ntmps59, List.size_toArray, List.length_cons, List.length_nil, Nat.reduceAdd, Nat.reduceSub, Array.replicate_succ, Array.replicate_zero, List.push_toArray, List.append_toArray, List.nil_append, List.cons_append]
  gi_wp2
  gi_loopw [4] (fun v4 wr => ∃ (i : Nat) (Ai : Option Addr) (v : Value), v = v4 ∧ i ≤ m ∧ J i wr ∧ SC wr Ba Bb at0 A n c bs i Ai) (fun _ wr => match wr.cell? ⟨Bb, 0, none⟩ with | some (.slice _ q _) => q | _ => 0)
  case atStart => exact ⟨0, A, _, rfl, Nat.zero_le _, hJ0, hS0⟩
  case round =>
    obtain ⟨i, Ai, v, rfl, hi, hj, hs⟩ := hrel
    clear hJ0 hS0
    have cb : wr.cell? ⟨Bb, 0, none⟩ = some (.slice Ai (n - 512 * i) (c - 512 * i)) := hs.b.cell 0
    have ca : wr.cell? ⟨Ba, 0, none⟩ = some (.int .i64 (at0 + i)) := hs.a.cell 0
    by_cases hlt : i < m
    · have md : Mod (fun k => k = Ba ∨ k = Bb) wr wr.drew := (Mod.refl _ _).drew
      obtain ⟨fn, tmps, assign, body, hy, hR⟩ := hY i wr.drew Ai hlt (hJ _ _ _ hj md) (hs.mod ((Mod.refl Nn wr).drew) (fun f => f) (fun f => f) (fun _ _ f => f))
      have hpos : (0 : Int) < ((n - 512 * i : Nat) : Int) := by omega
      have h512 : 512 ≤ c - 512 * i := by omega
      have hq512 : 512 ≤ n - 512 * i := by omega
      have hmx : Tryz.prog.follows .mixedOrders = true := by kernel_rfl
      generalize hq : n - 512 * i = q at *
      generalize hp : c - 512 * i = p at *
      have HQ := Lib.hid (And.intro hq hp); clear hq hp
      have cbw := cb
      gi_wp2
      clear hs hj md
      gi_region_with_o ((refine hR.mono ?_; clear hR hy; rintro e W' ⟨ok, rfl, hP⟩))
      all_goals
        cases ok with
        | true =>
          obtain ⟨hJ1, hS1⟩ := hP.1 rfl
          have hb1 := hS1.b
          rw [HQ.out.1, HQ.out.2] at hb1
          have cb : W'.cell? ⟨Bb, 0, none⟩ = some (.slice Ai q p) := hb1.cell 0
          have fb := hb1.frozen 0
          have ca : W'.cell? ⟨Ba, 0, none⟩ = some (.int .i64 (at0 + i)) := hS1.a.cell 0
          have fa := hS1.a.frozen 0
          have hS2 := hS1.next hn hlt hnc hab hAa
          rw [HQ.out.1, HQ.out.2] at hS2
          have hJ2 := hJ _ _ _ hJ1 (((Mod.refl (fun k => k = Ba ∨ k = Bb) W').setCell (p := ⟨Bb, 0, none⟩) (.inr (.inr rfl)) (.slice (nxt Ai p) (q - 512) (p - 512))).setCell (p := ⟨Ba, 0, none⟩) (.inr (.inl rfl)) (.int .i64 (at0 + i + 1)))
          have hms : ((W'.setCell ⟨Bb, 0, none⟩ (.slice (nxt Ai p) (q - 512) (p - 512))).setCell ⟨Ba, 0, none⟩ (.int .i64 (at0 + i + 1))).cell? ⟨Bb, 0, none⟩ = some (.slice (nxt Ai p) (q - 512) (p - 512)) := by
            have := hS2.b.cell 0
            rw [show n - 512 * (i + 1) = q - 512 from by have := HQ.out.1; omega, show c - 512 * (i + 1) = p - 512 from by have := HQ.out.2; omega] at this
            exact this
          have HH := Lib.hid (And.intro hJ2 (And.intro hS2 hms)); clear hJ2 hS2 hms hJ1 hS1 hb1
          have HW := Lib.hid cbw
          gi_wp2
          refine ⟨⟨i + 1, nxt Ai p, _, rfl, by omega, HH.out.1, HH.out.2.1⟩, ?_⟩
          have e1 := HH.out.2.2
          unfold nxt at e1
          rw [e1, HW.out]
          show q - 512 < q
          omega
        | false =>
          have hX := hP.2 rfl
          gi_wp2
          refine bodyPost_ret (results_none rfl _ _ _) rfl ?_
          exact ⟨⟨_, rfl⟩, .inr ⟨i + 1, by omega, hX⟩⟩
    · have hz : n - 512 * i = 0 := by omega
      have him : i = m := by omega
      rw [hz] at cb
      subst him
      gi_wp2
      go_end0
      exact ⟨⟨_, rfl⟩, .inl hj⟩
end Go.Proofs.YtijmkbhbpbkkoaaGreat

/- A range over blob.sectors: the law of the statement, at this iterator (turned from the library's law on a range over a function: the iterator keeps its state in two boxes, the body writes maps). -/
namespace Go.Proofs.YtijmkbhbpbkkoaaGreat
open Go.RowKit Go.Shelf

/-- how the body of a round may be left -/
def secPost (d : Nat) (I Ix : World → Prop) (S : World → Prop) (W : World) : Exit → Act → World → Prop
  | .normal, _, W' => (W'.heap[d]? = W.heap[d]? ∧ W'.heap[d + 1]? = W.heap[d + 1]?) ∧ I W' ∧ S W'
  | .ret, _, W' => (W'.heap[d]? = W.heap[d]? ∧ W'.heap[d + 1]? = W.heap[d + 1]?) ∧ Ix W'
  | _, _, _ => False
theorem putObj_mod (W : World) (l : Nat) (o : Obj) : Mod (At l) W (W.putObj l o) :=
  ⟨rfl, rfl, rfl, by simp, fun k _ hn => World.putObj_heap_other (fun e => hn e)⟩
set_option maxRecDepth 100000 in
set_option maxHeartbeats 3200000 in
theorem range_secs {g : Operand} {ps : Array Tmp} {assign body : Code} {Q : Exit → Act → World → Prop} {a : Act} {w : World} {Ba Bb m n c : Nat} {at0 : Int} {A : Option Addr} {bs : List Int}
    (hps : ps.size = 2) (hg : a.eval g = .func (.func 59) #[] #[.pointer (some ⟨Bb, 0, none⟩), .pointer (some ⟨Ba, 0, none⟩)])
    (hn : n = 512 * m) (hnc : n ≤ c) (hab : Ba ≠ Bb) (hAa : ∀ g, Of A g → g ≠ Ba ∧ g ≠ Bb) (h0 : 0 ≤ at0) (h1 : at0 + m ≤ 1152921504606846976) (hcm : c ≤ 1152921504606846976)
    (hAl : ∀ g, Of A g → g < w.heap.size) (hS0 : SC w Ba Bb at0 A n c bs 0 A)
    (I Ix : Nat → World → Prop)
    (hI : ∀ i W W', I i W → Mod (fun k => k = Ba ∨ k = Bb ∨ k = w.heap.size ∨ k = w.heap.size + 1) W W' → I i W')
    (hIx : ∀ i W W', Ix i W → Mod (fun k => k = w.heap.size ∨ k = w.heap.size + 1) W W' → Ix i W')
    (hi0 : I 0 w) (a₁ : Nat → Option Addr → Act)
    (hassign : ∀ (l i : Nat) (Ai : Option Addr) (W : World) (K : Act → World → Prop), K (a₁ i Ai) W →
      assign.wpIn (Fence.wide.inRound l) 1 Tryz.prog (Exit.then K (fun _ _ _ => False)) { tmps := (ps.zip #[.int .i64 (at0 + i), .slice Ai 512 (c - 512 * i)]).foldl (fun t (p, v) => t.setIfInBounds p v) a.tmps, defers := [] } W)
    (hbody : ∀ (l i : Nat) (Ai : Option Addr) (W : World), i < m → I i W → w.heap.size + 1 < W.heap.size → SC W Ba Bb at0 A n c bs i Ai →
      body.wpIn (Fence.wide.inRound l) 1 Tryz.prog (secPost w.heap.size (I (i + 1)) (Ix (i + 1)) (fun W' => SC W' Ba Bb at0 A n c bs i Ai) W) (a₁ i Ai) W)
    (hdone : ∀ (W : World), I m W → W.heap[w.heap.size]? = some (.deferred (some [])) → Q .normal { a with defers := { target := .collected w.heap.size, args := #[] } :: a.defers } W)
    (hstop : ∀ (i : Nat) (W : World), i ≤ m → Ix i W → W.heap[w.heap.size]? = some (.deferred (some [])) → Code.ret.wpIn Fence.wide 3 Tryz.prog Q { a with defers := { target := .collected w.heap.size, args := #[] } :: a.defers } W) :
    (Code.rangeFunc g ps assign body).wpIn Fence.wide 3 Tryz.prog Q a w := by
  refine wpIn_rangeFunc ?_
  intro fn hfn
  have hro : Fence.wide.round = none := rfl
  rw [hro]
  have hbl := hS0.b.lt
  have hal := hS0.a.lt
  obtain ⟨rec, hrec⟩ : ∃ rec : LoopState → Option Code → Loop, rec = fun st pe => { state := st, pending := pe, fn, tmps := a.tmps, params := ps, assign, body, defers := w.heap.size } := ⟨_, rfl⟩
  obtain ⟨W1, hW1⟩ : ∃ W1, (w.alloc (.deferred (some []))).alloc (.loop (rec .ready none)) = W1 := ⟨_, rfl⟩
  have hL1 : W1.heap[w.heap.size + 1]? = some (.loop (rec .ready none)) := by
    rw [← hW1]; have := World.alloc_heap_new (w.alloc (.deferred (some []))) (.loop (rec .ready none)); rwa [World.size_alloc] at this
  have hK1 : W1.heap[w.heap.size]? = some (.deferred (some [])) := by
    rw [← hW1]; exact (Below.heap_alloc _ _ _ (by simp)).trans (World.alloc_heap_new w _)
  have mW1 : Mod Nn w W1 := by rw [← hW1]; exact ((Mod.refl _ _).alloc _).alloc _
  have hI1 : I 0 W1 := hI 0 _ _ hi0 mW1.nn
  have hS1 : SC W1 Ba Bb at0 A n c bs 0 A := hS0.mod mW1 (fun f => f) (fun f => f) (fun _ _ f => f)
  refine ⟨w.heap.size + 1, [{ target := .collected w.heap.size, args := #[] }], W1, { target := .fn (.func 59) #[.pointer (some ⟨Bb, 0, none⟩), .pointer (some ⟨Ba, 0, none⟩)], args := #[.func (.yield (w.heap.size + 1)) #[] #[]] }, W1, 59,
    #[.func (.yield (w.heap.size + 1)) #[] #[], .pointer (some ⟨Bb, 0, none⟩), .pointer (some ⟨Ba, 0, none⟩)], W1, ?_, ?_, ?_, ?_, fun _ => by omega, ?_⟩
  · rw [← hW1, hrec]; exact run_enterLoop_outer _ _ _ _ _
  · simp only [resolve, hg]
    simp [go_sem]
  · intro f' _; trivial
  · simp [invoke, go_sem, enters_of Tryz.func59 (by kernel_rfl) rfl]
  · refine (secs_in (w.heap.size + 1) Ba Bb m n c at0 A bs
      (fun i W => I i W ∧ W.heap[w.heap.size + 1]? = some (.loop (rec .ready none)) ∧ W.heap[w.heap.size]? = some (.deferred (some [])))
      (fun i W => Ix i W ∧ W.heap[w.heap.size + 1]? = some (.loop (rec .done (some .ret))) ∧ W.heap[w.heap.size]? = some (.deferred (some [])))
      hn hnc hab hAa h0 h1 hcm ?_ ?_ W1 ⟨hI1, hL1, hK1⟩ hS1).mono ?_
    · rintro i W W' ⟨h2, h3, h4⟩ hm
      have hl : w.heap.size + 1 < W.heap.size := (Array.getElem?_eq_some_iff.1 h3).1
      exact ⟨hI _ _ _ h2 (hm.mono (fun k _ hk => hk.elim .inl (fun h => .inr (.inl h)))), (hm.block _ hl (fun e => by rcases e with e | e <;> omega)).trans h3, (hm.block _ (by omega) (fun e => by rcases e with e | e <;> omega)).trans h4⟩
    · rintro i W Ai hi ⟨h2, h3, h4⟩ hS
      have hlt : w.heap.size + 1 < W.heap.size := (Array.getElem?_eq_some_iff.1 h3).1
      have hy := run_yield (P := Tryz.prog) (args := #[.int .i64 (at0 + i), .slice Ai 512 (c - 512 * i)]) h3 (by rw [hrec]; exact hps.symm)
      rw [hrec] at hy
      refine ⟨fn, _, assign, body, hy, roundIn_of_wpIn hfn (hassign _ i Ai W _ ⟨_, run_beginRound h3 (by rw [hrec]), ?_⟩)⟩
      have mb : Mod (At (w.heap.size + 1)) W (W.putObj (w.heap.size + 1) (.loop { rec .ready none with state := .busy })) := putObj_mod _ _ _
      have hl2 : (W.putObj (w.heap.size + 1) (.loop { rec .ready none with state := .busy })).heap[w.heap.size + 1]? = some (.loop { rec .ready none with state := .busy }) := World.putObj_heap_same hlt
      have hk2 : (W.putObj (w.heap.size + 1) (.loop { rec .ready none with state := .busy })).heap[w.heap.size]? = some (.deferred (some [])) := (World.putObj_heap_other (by omega)).trans h4
      refine wpIn_mono (hbody _ i Ai _ hi (hI _ _ _ h2 (mb.mono (fun k _ hk => .inr (.inr (.inr hk))))) (by simp; exact hlt) (hS.mod mb (fun e => by have e : Ba = w.heap.size + 1 := e; omega) (fun e => by have e : Bb = w.heap.size + 1 := e; omega) (fun g hg e => by have := hAl g hg; have e : g = w.heap.size + 1 := e; omega))) ?_
      rintro e a3 W3 hp
      cases e with
      | normal =>
        obtain ⟨⟨k1, k2⟩, hi3, hs3⟩ := hp
        have hl3 := k2.trans hl2
        have hk3 := k1.trans hk2
        have hr := run_endRound (P := Tryz.prog) none hl3
        have m3 := putObj_mod W3 (w.heap.size + 1) (.loop { rec .ready none with state := if (none : Option Code).isNone then .ready else .done, pending := none })
        refine ⟨_, _, hr, true, rfl, fun _ => ⟨⟨hI _ _ _ hi3 (m3.mono (fun k _ hk => .inr (.inr (.inr hk)))), ?_, ?_⟩, ?_⟩, fun h => by cases h⟩
        · refine (World.putObj_heap_same (Array.getElem?_eq_some_iff.1 hl3).1).trans ?_
          rw [hrec]; rfl
        · exact (World.putObj_heap_other (by omega)).trans hk3
        · exact hs3.mod m3 (fun e => by have e : Ba = w.heap.size + 1 := e; omega) (fun e => by have e : Bb = w.heap.size + 1 := e; omega) (fun g hg e => by have := hAl g hg; have e : g = w.heap.size + 1 := e; omega)
      | ret =>
        obtain ⟨⟨k1, k2⟩, hi3⟩ := hp
        have hl3 := k2.trans hl2
        have hk3 := k1.trans hk2
        have hr := run_endRound (P := Tryz.prog) (some .ret) hl3
        have m3 := putObj_mod W3 (w.heap.size + 1) (.loop { rec .ready none with state := if (some Code.ret).isNone then .ready else .done, pending := some .ret })
        refine ⟨_, _, hr, false, rfl, (fun h => by cases h), fun _ => ⟨hIx _ _ _ hi3 (m3.mono (fun k _ hk => .inr hk)), ?_, ?_⟩⟩
        · refine (World.putObj_heap_same (Array.getElem?_eq_some_iff.1 hl3).1).trans ?_
          rw [hrec]; rfl
        · exact (World.putObj_heap_other (by omega)).trans hk3
      | exit id => exact hp.elim
      | goto t => exact hp.elim
      | panic ch => exact hp.elim
      | outgrown => exact hp.elim
    · rintro e W2 ⟨⟨v, rfl⟩, (⟨hi, hl, hk⟩ | ⟨i, him, hi, hl, hk⟩)⟩
      · exact ⟨none, _, by have := run_endLoop (P := Tryz.prog) hl (by rw [hrec]; simp); rw [hrec] at this; exact this, hdone _ (hI _ _ _ hi ((putObj_mod _ _ _).mono (fun k _ hk => .inr (.inr (.inr hk))))) ((World.putObj_heap_other (by omega)).trans hk)⟩
      · exact ⟨some .ret, _, by have := run_endLoop (P := Tryz.prog) hl (by rw [hrec]; simp); rw [hrec] at this; exact this, hstop i _ him (hIx _ _ _ hi ((putObj_mod _ _ _).mono (fun k _ hk => .inr hk))) ((World.putObj_heap_other (by omega)).trans hk)⟩
end Go.Proofs.YtijmkbhbpbkkoaaGreat

/- blob: may, Write. -/
namespace Go.Proofs.YtijmkbhbpbkkoaaGreat
open Go.RowKit Go.Shelf
attribute [local go_sem] Oper.semAt_some

def bmay (D : Dk) (at_ n : Int) : Int := if at_ < 0 ∨ D.n < at_ ∨ D.n - at_ < n then 6 else 0
theorem bmay_01 (D : Dk) (a n : Int) : bmay D a n = 0 ∨ bmay D a n = 6 := by unfold bmay; split <;> simp
/-- m sectors written one by one -/
def bw (D : Dk) (at_ : Int) (bs : List Int) : Nat → Int × Dk
  | 0 => (0, D)
  | m + 1 => if (D.write at_ (bs.take 512)).1 = 0 then bw (D.write at_ (bs.take 512)).2 (at_ + 1) (bs.drop 512) m else D.write at_ (bs.take 512)
def bwrite (D : Dk) (at_ : Int) (bs : List Int) : Int × Dk :=
  if bs.length % 512 ≠ 0 then (2, D) else if bmay D at_ ((bs.length / 512 : Nat) : Int) ≠ 0 then (6, D) else bw D at_ bs (bs.length / 512)
section
variable {w w' : World} {c b ms mo mk : Nat} {D : Dk} {most now hits misses : Int} {l : KL} {T : TL}
set_option maxRecDepth 100000 in
set_option maxHeartbeats 800000 in
theorem bmay_any (h : CAt w c b ms mo mk D most now hits misses l T) (at_ n : Int) (ha : -9223372036854775808 ≤ at_ ∧ at_ ≤ 9223372036854775807) :
    Calls Tryz.prog 42 #[.pointer (some ⟨c, 0, none⟩), .int .i64 at_, .int .i64 n] w fun e w' => e = .returned (.int .i64 (bmay D at_ n)) ∧ w = w' := by
  have hN := h.d.ok.n1
  have hN2 := h.d.ok.n2
  generalize hDn : D.n = N at *
  have HN := Lib.hid hDn; clear hDn
  by_cases h1 : at_ < 0
  · have HB := Lib.hid (show bmay D at_ n = 6 by unfold bmay; rw [if_pos (.inl h1)])
    go_enter Tryz.func42, Tryz.ntmps42
    go_wp2
    go_ret
    rw [HB.out]
    exact ⟨rfl, rfl⟩
  · by_cases h2 : N < at_
    · have HB := Lib.hid (show bmay D at_ n = 6 by unfold bmay; rw [if_pos (.inr (.inl (by rw [HN.out]; exact h2)))])
      go_enter Tryz.func42, Tryz.ntmps42
      go_wp2_with fail
      refine (csectors_any h).mono ?_
      rintro r w1 ⟨rfl, rfl⟩
      rw [HN.out]
      go_wp2
      go_ret
      rw [HB.out]
      exact ⟨rfl, rfl⟩
    · by_cases h3 : N - at_ < n
      · have HB := Lib.hid (show bmay D at_ n = 6 by unfold bmay; rw [if_pos (.inr (.inr (by rw [HN.out]; exact h3)))])
        go_enter Tryz.func42, Tryz.ntmps42
        go_wp2_with fail
        refine (csectors_any h).mono ?_
        rintro r w1 ⟨rfl, rfl⟩
        rw [HN.out]
        go_wp2_with fail
        refine (csectors_any h).mono ?_
        rintro r w1 ⟨rfl, rfl⟩
        rw [HN.out]
        go_wp2
        go_ret
        rw [HB.out]
        exact ⟨rfl, rfl⟩
      · have HB := Lib.hid (show bmay D at_ n = 0 by unfold bmay; rw [if_neg (by rw [HN.out]; omega)])
        go_enter Tryz.func42, Tryz.ntmps42
        go_wp2_with fail
        refine (csectors_any h).mono ?_
        rintro r w1 ⟨rfl, rfl⟩
        rw [HN.out]
        go_wp2_with fail
        refine (csectors_any h).mono ?_
        rintro r w1 ⟨rfl, rfl⟩
        rw [HN.out]
        go_wp2
        go_ret
        rw [HB.out]
        exact ⟨rfl, rfl⟩

def BWriteP (w : World) (c b ms mo mk : Nat) (D : Dk) (most now hits misses : Int) (l : KL) (at_ : Int) (bs : List Int) (e : Ending) (w' : World) : Prop :=
  ∃ now' l' T', e = .returned (.int .i64 (bwrite D at_ bs).1) ∧ CAt w' c b ms mo mk (bwrite D at_ bs).2 most now' hits misses l' T' ∧ CTo w w' c b ms mo mk l l' ∧ now' ≤ now + ((bs.length / 512 : Nat) : Int)
theorem CTo.trans {w1 w2 w3 : World} {l1 l2 l3 : KL} (h : CTo w1 w2 c b ms mo mk l1 l2) (k : CTo w2 w3 c b ms mo mk l2 l3) : CTo w1 w3 c b ms mo mk l1 l3 :=
  ⟨h.md.trans k.md, fun e he g hg => by
    rcases k.G e he g hg with ⟨x, hx, hxg⟩ | h1
    · exact h.G x hx g hxg
    · have := h.md.size; exact .inr (by omega)⟩
theorem CTo.pre {w1 w2 w3 : World} {l1 l2 : KL} (h : CTo w2 w3 c b ms mo mk l1 l2) (hm : Mod Nn w1 w2) : CTo w1 w3 c b ms mo mk l1 l2 :=
  ⟨(Mod.nn hm).trans h.md, fun e he g hg => by
    rcases h.G e he g hg with h1 | h1
    · exact .inl h1
    · have := hm.size; exact .inr (by omega)⟩

set_option maxRecDepth 100000 in
set_option maxHeartbeats 1600000 in
theorem bwrite_bad (h : CAt w c b ms mo mk D most now hits misses l T) (at_ : Int) (ha : -9223372036854775808 ≤ at_ ∧ at_ ≤ 9223372036854775807) {A : Option Addr} {n cc : Nat} {bs : List Int} (hr : Rd w A n (bs.map (Value.int .u8))) (hbad : n % 512 ≠ 0 ∨ bmay D at_ ((n / 512 : Nat) : Int) ≠ 0) (hn : n ≤ 1152921504606846976) :
    Calls Tryz.prog 28 #[.pointer (some ⟨c, 0, none⟩), .int .i64 at_, .slice A n cc] w (BWriteP w c b ms mo mk D most now hits misses l at_ bs) := by
  have hL : bs.length = n := by simpa using hr.1
  have m1 : Mod Nn w ((w.alloc (.cells #[.pointer (some ⟨c, 0, none⟩)] 32)).alloc (.cells #[.int .i64 0] 34)) := ((Mod.refl _ _).alloc _).alloc _
  have h1 := h.quiet m1
  have hN := h.d.ok.n1
  have hN0 : (D.n == 0) = false := by rw [beq_eq_false_iff_ne]; omega
  generalize hDn : D.n = N at *
  have HN := Lib.hid hDn; clear hDn
  have HP : Hid (∀ w' (r : Int), bwrite D at_ bs = (r, D) → Mod Nn ((w.alloc (.cells #[.pointer (some ⟨c, 0, none⟩)] 32)).alloc (.cells #[.int .i64 0] 34)) w' ∨ Mod (At (w.heap.size + 1)) ((w.alloc (.cells #[.pointer (some ⟨c, 0, none⟩)] 32)).alloc (.cells #[.int .i64 0] 34)) w' → BWriteP w c b ms mo mk D most now hits misses l at_ bs (.returned (.int .i64 r)) w') := Lib.hid (fun w' r hW hm => by
    have hM : Mod Nn w w' := hm.elim (fun hm => m1.nn_ hm) (fun hm => m1.new_ hm (by omega))
    exact ⟨now, l, T, by rw [hW], by rw [hW]; exact h.quiet hM, CTo.same hM.nn, by omega⟩)
  have hbx := Blk.new (w.alloc (.cells #[.pointer (some ⟨c, 0, none⟩)] 32)) 34 #[.int .i64 0]
  have hcx := (Blk.new w 32 #[.pointer (some ⟨c, 0, none⟩)]).alloc (.cells #[.int .i64 0] 34)
  rw [show (w.alloc (.cells #[.pointer (some ⟨c, 0, none⟩)] 32)).heap.size = w.heap.size + 1 from by simp] at hbx
  have HBX := Lib.hid (And.intro hbx hcx)
  clear h m1
  by_cases h512 : n % 512 = 0
  · have hb0 : bmay D at_ ((n : Int) / 512) ≠ 0 := by
      rcases hbad with h | h
      · exact absurd h512 h
      · rwa [show ((n / 512 : Nat) : Int) = (n : Int) / 512 from by omega] at h
    have hb6 : bmay D at_ ((n : Int) / 512) = 6 := (bmay_01 _ _ _).resolve_left hb0
    have hW : bwrite D at_ bs = (6, D) := by
      unfold bwrite
      rw [hL, if_neg (by omega), if_pos (by rwa [show ((n / 512 : Nat) : Int) = (n : Int) / 512 from by omega])]
    have hmod2 : (n : Int) % 512 = 0 := by omega
    have HB := Lib.hid (And.intro hb6 hW); clear hb0 hb6 hbad hW h512
    go_enter Tryz.func28, Tryz.ntmps28
    go_wp2_with fail
    refine (csectors_any h1).mono ?_
    rintro r w1 ⟨rfl, rfl⟩
    rw [HN.out]
    go_wp2_with fail
    refine (bmay_any h1 at_ _ ha).mono ?_
    rintro r w1 ⟨rfl, rfl⟩
    rw [HB.out.1]
    clear h1 hbx hcx
    generalize hww : (w.alloc (.cells #[.pointer (some ⟨c, 0, none⟩)] 32)).alloc (.cells #[.int .i64 0] 34) = ww at *
    clear hww
    have c6 : ww.cell? ⟨w.heap.size + 1, 0, none⟩ = some (.int .i64 0) := HBX.out.1.cell 0
    have f6 := HBX.out.1.frozen 0
    go_wp2
    have hc6 : (ww.setCell ⟨w.heap.size + 1, 0, none⟩ (.int .i64 6)).cell? ⟨w.heap.size + 1, 0, none⟩ = some (.int .i64 6) := World.cell?_setCell_same' _ _ _ (by rw [c6]; rfl)
    exact bodyPost_ret (v := .int .i64 6) (by simp [results, Tryz.results28, go_sem, hc6]) rfl (HP.out _ 6 HB.out.2 (.inr (Mod.cellAt _ _ _ _)))
  · have hW : bwrite D at_ bs = (2, D) := by unfold bwrite; rw [hL, if_pos (by omega)]
    have hmod2 : ((n : Int) % 512 == 0) = false := by rw [beq_eq_false_iff_ne]; omega
    have hmod3 : ((n : Int) % 512 != 0) = true := by rw [bne_iff_ne]; omega
    have HB := Lib.hid hW; clear hW hbad h512
    go_enter Tryz.func28, Tryz.ntmps28
    go_wp2_with fail
    refine (csectors_any h1).mono ?_
    rintro r w1 ⟨rfl, rfl⟩
    rw [HN.out]
    clear h1 hbx hcx
    generalize hww : (w.alloc (.cells #[.pointer (some ⟨c, 0, none⟩)] 32)).alloc (.cells #[.int .i64 0] 34) = ww at *
    clear hww
    have c6 : ww.cell? ⟨w.heap.size + 1, 0, none⟩ = some (.int .i64 0) := HBX.out.1.cell 0
    have f6 := HBX.out.1.frozen 0
    go_wp2
    have hc6 : (ww.setCell ⟨w.heap.size + 1, 0, none⟩ (.int .i64 2)).cell? ⟨w.heap.size + 1, 0, none⟩ = some (.int .i64 2) := World.cell?_setCell_same' _ _ _ (by rw [c6]; rfl)
    exact bodyPost_ret (v := .int .i64 2) (by simp [results, Tryz.results28, go_sem, hc6]) rfl (HP.out _ 2 HB.out (.inr (Mod.cellAt _ _ _ _)))

/-- between two rounds -/
structure BwI (w : World) (c b ms mo mk : Nat) (D : Dk) (most now hits misses : Int) (l : KL) (at_ : Int) (bs : List Int) (m d i : Nat) (W : World) (now' : Int) (l' : KL) (T' : TL) (Di : Dk) : Prop where
  ca : CAt W c b ms mo mk Di most now' hits misses l' T'
  to : CTo w W c b ms mo mk l l'
  g : ∀ k, InA c b ms mo mk l' k → InA c b ms mo mk l k ∨ d + 2 ≤ k
  nw : now' ≤ now + i
  bx : Blk W w.heap.size 32 #[.pointer (some ⟨c, 0, none⟩)]
structure BwR (w : World) (c b ms mo mk : Nat) (D : Dk) (most now hits misses : Int) (l : KL) (at_ : Int) (bs : List Int) (m d i : Nat) (W : World) (now' : Int) (l' : KL) (T' : TL) (Di : Dk) (r : Int) : Prop where
  i : BwI w c b ms mo mk D most now hits misses l at_ bs m d i W now' l' T' Di
  r : Blk W (w.heap.size + 1) 34 #[.int .i64 r]
theorem BwI.mod {W W' : World} {at_ : Int} {bs : List Int} {m d i : Nat} {now' : Int} {l' : KL} {T' : TL} {Di : Dk} {S : Nat → Prop} (h : BwI w c b ms mo mk D most now hits misses l at_ bs m d i W now' l' T' Di) (hm : Mod S W W')
    (hS : ∀ k, S k → w.heap.size < k ∧ k < d + 2) (hl : ∀ k, InA c b ms mo mk l k → k < w.heap.size) : BwI w c b ms mo mk D most now hits misses l at_ bs m d i W' now' l' T' Di :=
  ⟨h.ca.mod hm (fun k hk hs => by
    have h1 := hS k hs
    rcases h.g k hk with h2 | h2
    · have := hl k h2; omega
    · omega), ⟨h.to.md.then_ hm (fun k hk hs => by have := (hS k hs).1; omega), h.to.G⟩, h.g, h.nw, h.bx.mod hm (fun hs => by have := (hS _ hs).1; omega)⟩
theorem BwI.step {W W2 : World} {at_ : Int} {bs : List Int} {m d i : Nat} {now' n2 : Int} {l' l2 : KL} {T' T2 : TL} {Di D2 : Dk} (h : BwI w c b ms mo mk D most now hits misses l at_ bs m d i W now' l' T' Di) (hC : CAt W2 c b ms mo mk D2 most n2 hits misses l2 T2) (hT : CTo W W2 c b ms mo mk l' l2)
    (hd : d + 1 < W.heap.size) (hn : n2 ≤ now' + 1) (hl : ∀ k, InA c b ms mo mk l k → k < w.heap.size) : BwI w c b ms mo mk D most now hits misses l at_ bs m d (i + 1) W2 n2 l2 T2 D2 :=
  ⟨hC, h.to.trans hT, fun k hk => by
    rcases hT.A hk with h1 | h1
    · exact h.g k h1
    · exact .inr (by omega), by have := h.nw; omega, h.bx.mod hT.md (fun hin => by have := hl _ (inA_of hin); omega)⟩
theorem bw_succ (D : Dk) (at_ : Int) (bs : List Int) {k : Nat} (hk : 0 < k) : bw D at_ bs k = if (D.write at_ (bs.take 512)).1 = 0 then bw (D.write at_ (bs.take 512)).2 (at_ + 1) (bs.drop 512) (k - 1) else D.write at_ (bs.take 512) := by
  obtain ⟨j, rfl⟩ : ∃ j, k = j + 1 := ⟨k - 1, by omega⟩
  rfl

set_option maxRecDepth 100000 in
set_option maxHeartbeats 6400000 in
theorem bwrite_ok (h : CAt w c b ms mo mk D most now hits misses l T) (at_ : Int) {A : Option Addr} {cc m : Nat} {bs : List Int} (hr : Rd w A (512 * m) (bs.map (Value.int .u8))) (hok : bmay D at_ (m : Int) = 0) (hcc : 512 * m ≤ cc) (hcm : cc ≤ 1152921504606846976)
    (hnow : now + m ≤ 1152921504606846976) (hA : ∀ g, Of A g → ¬ InW c b ms mo mk g ∧ g < w.heap.size) :
    Calls Tryz.prog 28 #[.pointer (some ⟨c, 0, none⟩), .int .i64 at_, .slice A (512 * m) cc] w (BWriteP w c b ms mo mk D most now hits misses l at_ bs) := by
  have hL : bs.length = 512 * m := by simpa using hr.1
  have ha : 0 ≤ at_ ∧ at_ + m ≤ D.n := by
    unfold bmay at hok
    split at hok
    · cases hok
    · omega
  have hN2 := h.d.ok.n2
  have hN := h.d.ok.n1
  have hN0 : (D.n == 0) = false := by rw [beq_eq_false_iff_ne]; omega
  have hW : bwrite D at_ bs = bw D at_ bs m := by
    unfold bwrite
    rw [hL, if_neg (by omega), show 512 * m / 512 = m from by omega, if_neg (by simp [hok])]
  have hQ : bs.length / 512 = m := by omega
  have HD := Lib.hid (And.intro hL (And.intro hW (And.intro hok hQ)))
  clear hL hW hQ hok
  have hlA := h.lt
  have HLA := Lib.hid hlA; clear hlA
  have HA := Lib.hid hA; clear hA
  refine (callsIn_wide (n := 3)).1 ?_
  refine callsIn_of_wp_marks Tryz.func28 rfl trivial ?_ rfl
  simp only [Tryz.ntmps28, List.size_toArray, List.length_cons, List.length_nil, Nat.reduceAdd, Nat.reduceSub, Array.replicate_succ, Array.replicate_zero, List.push_toArray, List.append_toArray, List.nil_append, List.cons_append]
  have m1 : Mod Nn w ((w.alloc (.cells #[.pointer (some ⟨c, 0, none⟩)] 32)).alloc (.cells #[.int .i64 0] 34)) := ((Mod.refl _ _).alloc _).alloc _
  have h1 := h.quiet m1
  have hr1 := hr.mod m1 (fun _ _ f => f)
  generalize hDn : D.n = N at *
  have HN := Lib.hid hDn; clear hDn
  have hbx := Blk.new (w.alloc (.cells #[.pointer (some ⟨c, 0, none⟩)] 32)) 34 #[.int .i64 0]
  have hcx := (Blk.new w 32 #[.pointer (some ⟨c, 0, none⟩)]).alloc (.cells #[.int .i64 0] 34)
  rw [show (w.alloc (.cells #[.pointer (some ⟨c, 0, none⟩)] 32)).heap.size = w.heap.size + 1 from by simp] at hbx
  have hs1 : ((w.alloc (.cells #[.pointer (some ⟨c, 0, none⟩)] 32)).alloc (.cells #[.int .i64 0] 34)).heap.size = w.heap.size + 2 := by simp
  have HBX := Lib.hid (And.intro hbx (And.intro hcx (And.intro m1 (And.intro hs1 (And.intro h1 hr1)))))
  clear hbx hcx m1 hs1 hr hr1 h
  gi_wp2_with (first
    | (refine ⟨trivial, ?_⟩; gi_at_call 39; refine (callsIn_wide.2 (csectors_any h1)).mono ?_; rintro r w1 ⟨rfl, rfl⟩; rw [HN.out])
    | (refine ⟨trivial, ?_⟩; gi_at_call 42; refine (callsIn_wide.2 (bmay_any h1 at_ m (by omega))).mono ?_; rintro r w1 ⟨rfl, rfl⟩; rw [HD.out.2.2.1]; clear h1; generalize (w.alloc (.cells #[.pointer (some ⟨c, 0, none⟩)] 32)).alloc (.cells #[.int .i64 0] 34) = ww at *)
    | (refine ⟨trivial, ?_⟩; gi_at_call 43; refine (callsIn_wide.2 (sectors_it at_ (.slice A (512 * m) cc) rfl rfl ww)).mono ?_; rintro r w5 ⟨rfl, hw5⟩))
  have mw5 : Mod Nn ww w5 := by rw [← hw5]; exact ((Mod.refl _ _).alloc _).alloc _
  have sw5 : w5.heap.size = ww.heap.size + 2 := by rw [← hw5]; simp
  have hba : Blk w5 ww.heap.size 3 #[.int .i64 at_] := by rw [← hw5]; exact (Blk.new _ _ _).alloc _
  have hbb : Blk w5 (ww.heap.size + 1) 29 #[.slice A (512 * m) cc] := by
    rw [← hw5]
    have := Blk.new (ww.alloc (.cells #[.int .i64 at_] 3)) 29 #[.slice A (512 * m) cc]
    rwa [show (ww.alloc (.cells #[.int .i64 at_] 3)).heap.size = ww.heap.size + 1 from by simp] at this
  obtain ⟨hres, hbox, mww, sww, hca, hrd⟩ := HBX.out
  clear HBX hw5
  rw [sww] at hba hbb sw5 ⊢
  have hS0 : SC w5 (w.heap.size + 2) (w.heap.size + 2 + 1) at_ A (512 * m) cc bs 0 A := ⟨by simpa using hba, by simpa using hbb, fun g hg => hg, by simpa using hrd.mod mw5 (fun _ _ f => f)⟩
  have hI0 : BwI w c b ms mo mk D most now hits misses l at_ bs m w5.heap.size 0 w5 now l T D := ⟨hca.quiet mw5, CTo.same (Mod.nn (mww.nn_ mw5)), fun k hk => .inl hk, by omega, hbox.mod mw5 (fun f => f)⟩
  have hR0 := hres.mod mw5 (fun f => f)
  have HS := Lib.hid (And.intro hS0 (And.intro hI0 (And.intro hR0 (And.intro (mww.nn_ mw5) sw5))))
  clear hba hbb hres hbox hca hrd mw5 mww hS0 hI0 hR0
  refine range_secs (m := m) (n := 512 * m) (c := cc) (at0 := at_) (A := A) (bs := bs) (Ba := w.heap.size + 2) (Bb := w.heap.size + 2 + 1) rfl rfl rfl hcc (by omega) (fun g hg => by have := (HA.out g hg).2; omega) ha.1 (by omega) hcm (fun g hg => by have := (HA.out g hg).2; omega) HS.out.1
    (fun i W => ∃ now' l' T' Di, BwR w c b ms mo mk D most now hits misses l at_ bs m w5.heap.size i W now' l' T' Di 0 ∧ bw D at_ bs m = bw Di (at_ + i) (bs.drop (512 * i)) (m - i))
    (fun i W => ∃ now' l' T' Di r, BwR w c b ms mo mk D most now hits misses l at_ bs m w5.heap.size i W now' l' T' Di r ∧ r ≠ 0 ∧ bw D at_ bs m = (r, Di))
    ?hI ?hIx ?h0
    (fun i Ai => { tmps := #[.pointer (some ⟨c, 0, none⟩), .int .i64 at_, .slice A (512 * m) cc, .pointer (some ⟨w.heap.size, 0, none⟩), undef, undef, .pointer (some ⟨w.heap.size + 1, 0, none⟩), .int .i64 0, .int .i64 (at_ + i), .slice Ai 512 (cc - 512 * i), undef,
        .bool false, .pointer (some ⟨c, 0, none⟩), .int .i64 N, .bool false, .bool false, .slice A (512 * m) cc, .int .i64 (512 * ↑m), .int .i64 0, .bool false, .pointer (some ⟨c, 0, none⟩), .int .i64 at_, .slice A (512 * m) cc, .int .i64 (512 * ↑m), .int .i64 ↑m, .int .i64 0,
        .int .i64 0, .bool false, undef, .int .i64 at_, .slice A (512 * m) cc, .func (.func 59) #[] #[.pointer (some ⟨w.heap.size + 2 + 1, 0, none⟩), .pointer (some ⟨w.heap.size + 2, 0, none⟩)], .int .i64 (at_ + i), .slice Ai 512 (cc - 512 * i), undef, undef, undef, undef, undef, undef, undef], defers := [] })
    ?assign ?body ?done ?stop
  case hI =>
    rintro i W W' ⟨now', l', T', Di, hB, hb⟩ hm
    exact ⟨now', l', T', Di, ⟨hB.i.mod hm (fun k hk => by rcases hk with hk | hk | hk | hk <;> omega) HLA.out, hB.r.mod hm (fun hk => by rcases hk with hk | hk | hk | hk <;> omega)⟩, hb⟩
  case hIx =>
    rintro i W W' ⟨now', l', T', Di, r, hB, hb⟩ hm
    exact ⟨now', l', T', Di, r, ⟨hB.i.mod hm (fun k hk => by rcases hk with hk | hk <;> omega) HLA.out, hB.r.mod hm (fun hk => by rcases hk with hk | hk <;> omega)⟩, hb⟩
  case h0 => exact ⟨now, l, T, D, ⟨HS.out.2.1, HS.out.2.2.1⟩, by simp⟩
  case assign =>
    intro l i Ai W K hK
    gi_wp2
    exact hK
  case body =>
    rintro l1 i Ai W hi ⟨now', l', T', Di, hB, hb⟩ hsz hSC
    have hC := hB.i.ca
    have cbx : W.cell? ⟨w.heap.size, 0, none⟩ = some (.pointer (some ⟨c, 0, none⟩)) := hB.i.bx.cell 0
    have hsec := hSC.r.pre (c := cc - 512 * i) 512 (by omega) (by omega)
    rw [subA_zero, ← List.map_take] at hsec
    have hcall := cwrite_any hC (at_ + i) (by have := hB.i.nw; omega) (cc := cc - 512 * i) hsec (fun g hg => (HA.out g (hSC.o g hg)).1)
    have hbs := bw_succ Di (at_ + i) (bs.drop (512 * i)) (show 0 < m - i by omega)
    have HB := Lib.hid (And.intro hB (And.intro hb (And.intro hSC hbs)))
    clear hB hb hC hsec hSC hbs
    generalize hr : (Di.write (at_ + i) ((bs.drop (512 * i)).take 512)).1 = r at *
    have HR := Lib.hid hr; clear hr
    have hInl : ∀ k, InW c b ms mo mk k → k < w.heap.size := fun k hk => HLA.out k (inA_of hk)
    have HIn := Lib.hid hInl; clear hInl
    have hwn : wroteN now' r ≤ now' + 1 := by unfold wroteN; split <;> omega
    have HWN := Lib.hid hwn; clear hwn
    by_cases hr0 : r = 0
    · subst hr0
      gi_wp2_with (refine ⟨trivial, ?_⟩; gi_at_call 44; refine (CallsIn.inRound l1 (callsIn_wide.2 hcall)).mono ?_; clear hcall; rintro e W2 ⟨l2, rfl, hC2, hT2⟩; rw [HR.out] at hC2 ⊢)
      refine ⟨⟨hT2.md.block _ (by omega) (fun hin => by have := HIn.out _ hin; omega), hT2.md.block _ hsz (fun hin => by have := HIn.out _ hin; omega)⟩, ⟨_, l2, _, _, ⟨HB.out.1.i.step hC2 hT2 hsz HWN.out HLA.out, HB.out.1.r.mod hT2.md (fun hin => by have := HIn.out _ hin; omega)⟩, ?_⟩, HB.out.2.2.1.mod hT2.md (fun hin => by have := HIn.out _ hin; omega) (fun hin => by have := HIn.out _ hin; omega) (fun g hg => (HA.out g hg).1)⟩
      have h1 := HB.out.2.1
      rw [HB.out.2.2.2] at h1
      first | rw [if_pos trivial] at h1 | rw [if_pos rfl] at h1
      rw [h1]
      congr 1
      · omega
      · rw [List.drop_drop]; rfl
    · have hr' : (r != 0) = true := by rw [bne_iff_ne]; exact hr0
      have HR0 := Lib.hid hr0; clear hr0
      gi_wp2_with (refine ⟨trivial, ?_⟩; gi_at_call 44; refine (CallsIn.inRound l1 (callsIn_wide.2 hcall)).mono ?_; clear hcall; rintro e W2 ⟨l2, rfl, hC2, hT2⟩; rw [HR.out] at hC2 ⊢; have hres2 := HB.out.1.r.mod hT2.md (fun hin => by have := HIn.out _ hin; omega); have c6 : W2.cell? ⟨w.heap.size + 1, 0, none⟩ = some (.int .i64 0) := hres2.cell 0; have f6 := hres2.frozen 0)
      have mst : Mod (At (w.heap.size + 1)) W2 (W2.setCell ⟨w.heap.size + 1, 0, none⟩ (.int .i64 r)) := Mod.cellAt _ _ _ _
      have hsz2 := hT2.md.size
      have hw5 := HS.out.2.2.2.2
      refine ⟨⟨(mst.block _ (by omega) (fun e => by have e : w5.heap.size = w.heap.size + 1 := e; omega)).trans (hT2.md.block _ (by omega) (fun hin => by have := HIn.out _ hin; omega)), (mst.block _ (by omega) (fun e => by have e : w5.heap.size + 1 = w.heap.size + 1 := e; omega)).trans (hT2.md.block _ hsz (fun hin => by have := HIn.out _ hin; omega))⟩, ⟨_, l2, _, _, r, ⟨(HB.out.1.i.step hC2 hT2 hsz HWN.out HLA.out).mod mst (fun k e => by have e : k = w.heap.size + 1 := e; omega) HLA.out, hres2.set_ 0 _⟩, HR0.out, ?_⟩⟩
      have h1 := HB.out.2.1
      rw [HB.out.2.2.2, if_neg HR0.out] at h1
      rw [h1, ← HR.out]
  case done =>
    rintro W ⟨now', l', T', Di, hB, hb⟩ hK
    have c6 : W.cell? ⟨w.heap.size + 1, 0, none⟩ = some (.int .i64 0) := hB.r.cell 0
    have f6 := hB.r.frozen 0
    have HB := Lib.hid (And.intro hB hb); clear hB hb
    have hw5 := HS.out.2.2.2.2
    gi_wp2
    have hK2 : (W.setCell ⟨w.heap.size + 1, 0, none⟩ (.int .i64 0)).heap[w5.heap.size]? = some (.deferred (some [])) := ((Mod.cellAt W (w.heap.size + 1) 0 (.int .i64 0)).block _ (Array.getElem?_eq_some_iff.1 hK).1 (fun e => by have e : w5.heap.size = w.heap.size + 1 := e; omega)).trans hK
    refine ⟨by simp, .inl ⟨_, _, rfl, run_takeDeferred hK2, ?_⟩⟩
    have md := putObj_mod (W.setCell ⟨w.heap.size + 1, 0, none⟩ (.int .i64 0)) w5.heap.size (.deferred none)
    have hr6 := (HB.out.1.r.set_ 0 (.int .i64 0)).mod md (fun e => by have e : w.heap.size + 1 = w5.heap.size := e; omega)
    have hc6 := hr6.cell 0
    have hI := (HB.out.1.i.mod (Mod.cellAt W (w.heap.size + 1) 0 (.int .i64 0)) (fun k e => by have e : k = w.heap.size + 1 := e; omega) HLA.out).mod md (fun k e => by have e : k = w5.heap.size := e; omega) HLA.out
    have hbw : bwrite D at_ bs = (0, Di) := by rw [HD.out.2.1, HB.out.2, Nat.sub_self]; rfl
    refine ⟨.int .i64 0, by simp [results, Tryz.results28, go_sem, hc6], now', l', T', by rw [hbw], by rw [hbw]; exact hI.ca, hI.to, by rw [HD.out.2.2.2]; exact hI.nw⟩
  case stop =>
    rintro i W him ⟨now', l', T', Di, r, hB, hr0, hb⟩ hK
    have HB := Lib.hid (And.intro hB hb); clear hB hb hr0
    have hw5 := HS.out.2.2.2.2
    gi_wp2
    refine ⟨by simp, .inl ⟨_, _, rfl, run_takeDeferred hK, ?_⟩⟩
    have md := putObj_mod W w5.heap.size (.deferred none)
    have hr6 := HB.out.1.r.mod md (fun e => by have e : w.heap.size + 1 = w5.heap.size := e; omega)
    have hc6 := hr6.cell 0
    have hI := HB.out.1.i.mod md (fun k e => by have e : k = w5.heap.size := e; omega) HLA.out
    have hbw : bwrite D at_ bs = (r, Di) := by rw [HD.out.2.1]; exact HB.out.2
    refine ⟨.int .i64 r, by simp [results, Tryz.results28, go_sem, hc6], now', l', T', by rw [hbw], by rw [hbw]; exact hI.ca, hI.to, by rw [HD.out.2.2.2]; have := hI.nw; omega⟩
end
end Go.Proofs.YtijmkbhbpbkkoaaGreat

/- blob: Write, Read. -/
namespace Go.Proofs.YtijmkbhbpbkkoaaGreat
open Go.RowKit

def rowsL (D : Dk) (at_ : Int) (k : Nat) : List Int := (List.range k).flatMap (fun i : Nat => D.latest (at_ + i))
theorem rowsL_succ (D : Dk) (at_ : Int) (k : Nat) : rowsL D at_ (k + 1) = rowsL D at_ k ++ D.latest (at_ + k) := by
  unfold rowsL; rw [List.range_succ, List.flatMap_append]; simp
theorem rowsL_len {D : Dk} (h : D.ok) (at_ : Int) : ∀ k, (rowsL D at_ k).length = 512 * k
  | 0 => rfl
  | k + 1 => by rw [rowsL_succ, List.length_append, rowsL_len h at_ k, h.latest_len]; omega
/-- what reading n sectors tells -/
def bread (D : Dk) (at_ n : Int) : Int × List Int :=
  if n < 0 ∨ 1024 < n then (2, []) else if bmay D at_ n ≠ 0 then (6, []) else if 0 < n ∧ D.down = true then (9, []) else (0, rowsL D at_ n.toNat)
theorem bread_len {D : Dk} (h : D.ok) (at_ n : Int) : (bread D at_ n).2.length ≤ 524288 := by
  unfold bread
  split
  · simp
  · split
    · simp
    · split
      · simp
      · show (rowsL D at_ n.toNat).length ≤ _
        rw [rowsL_len h]; omega
section
variable {w w' : World} {c b ms mo mk : Nat} {D : Dk} {most now hits misses : Int} {l : KL} {T : TL}
theorem bwrite_any (h : CAt w c b ms mo mk D most now hits misses l T) (at_ : Int) (ha : -9223372036854775808 ≤ at_ ∧ at_ ≤ 9223372036854775807) {A : Option Addr} {n cc : Nat} {bs : List Int} (hr : Rd w A n (bs.map (Value.int .u8))) (hcc : n ≤ cc) (hcm : cc ≤ 1152921504606846976)
    (hnow : now + ((n / 512 : Nat) : Int) ≤ 1152921504606846976) (hA : ∀ g, Of A g → ¬ InW c b ms mo mk g ∧ g < w.heap.size) :
    Calls Tryz.prog 28 #[.pointer (some ⟨c, 0, none⟩), .int .i64 at_, .slice A n cc] w (BWriteP w c b ms mo mk D most now hits misses l at_ bs) := by
  by_cases h1 : n % 512 = 0
  · by_cases h2 : bmay D at_ ((n / 512 : Nat) : Int) = 0
    · obtain ⟨m, rfl⟩ : ∃ m, n = 512 * m := ⟨n / 512, by omega⟩
      have hm : 512 * m / 512 = m := by omega
      rw [hm] at h2 hnow
      exact bwrite_ok h at_ hr h2 hcc hcm hnow hA
    · exact bwrite_bad h at_ ha hr (.inr h2) (by omega)
  · exact bwrite_bad h at_ ha hr (.inl h1) (by omega)

def BReadP (w : World) (c b ms mo mk : Nat) (D : Dk) (most now : Int) (l : KL) (at_ n : Int) (e : Ending) (w' : World) : Prop :=
  ∃ v now' hits' misses' l' T', e = .returned (.tuple #[v, .int .i64 (bread D at_ n).1]) ∧ CAt w' c b ms mo mk D most now' hits' misses' l' T' ∧ CTo w w' c b ms mo mk l l' ∧ now' ≤ now + 1024 ∧
    w'.ownsRow w.heap.size 5 1 v (bread D at_ n).2.length ((bread D at_ n).2.map (Value.int .u8)) ∧ (∀ g, v.ownBlock = some g → ¬ InA c b ms mo mk l' g)
theorem BReadP.none (h : CAt w c b ms mo mk D most now hits misses l T) {at_ n r : Int} (hb : bread D at_ n = (r, [])) {w' : World} (hm : Mod Nn w w') : BReadP w c b ms mo mk D most now l at_ n (.returned (.tuple #[.slice none 0 0, .int .i64 r])) w' :=
  ⟨_, now, hits, misses, l, T, by rw [hb], h.quiet hm, CTo.same hm.nn, by omega, by rw [hb]; exact World.ownsRow_nil _ _ _ _, (fun g hg => by cases hg)⟩
set_option maxRecDepth 100000 in
set_option maxHeartbeats 6400000 in
theorem bread_any (h : CAt w c b ms mo mk D most now hits misses l T) (at_ n : Int) (ha : -9223372036854775808 ≤ at_ ∧ at_ ≤ 9223372036854775807) (hnow : now ≤ 1000000000000) :
    Calls Tryz.prog 30 #[.pointer (some ⟨c, 0, none⟩), .int .i64 at_, .int .i64 n] w (BReadP w c b ms mo mk D most now l at_ n) := by
  have hN := h.d.ok.n1
  have hN0 : (D.n == 0) = false := by rw [beq_eq_false_iff_ne]; omega
  have hN2 := h.d.ok.n2
  have H := Lib.hid h
  generalize hDn : D.n = N at *
  have HN := Lib.hid hDn; clear hDn
  by_cases h1 : n < 0
  · have HP := Lib.hid (BReadP.none H.out (show bread D at_ n = (2, []) by unfold bread; rw [if_pos (.inl h1)]) (Mod.refl Nn w))
    go_enter Tryz.func30, Tryz.ntmps30
    go_wp2_with fail
    refine (csectors_any H.out).mono ?_
    rintro r w1 ⟨rfl, rfl⟩
    rw [HN.out]
    clear h
    go_wp2
    go_ret2
    exact HP.out
  by_cases h2 : 1024 < n
  · have HP := Lib.hid (BReadP.none H.out (show bread D at_ n = (2, []) by unfold bread; rw [if_pos (.inr h2)]) (Mod.refl Nn w))
    go_enter Tryz.func30, Tryz.ntmps30
    go_wp2_with fail
    refine (csectors_any H.out).mono ?_
    rintro r w1 ⟨rfl, rfl⟩
    rw [HN.out]
    clear h
    go_wp2
    go_ret2
    exact HP.out
  have hn0 : 0 ≤ n := by omega
  have hn1 : n ≤ 1024 := by omega
  rcases bmay_01 D at_ n with hb0 | hb6
  · have hat : 0 ≤ at_ ∧ at_ + n ≤ N := by
      unfold bmay at hb0
      split at hb0
      · cases hb0
      · rw [HN.out] at *; omega
    have hbr : bread D at_ n = if 0 < n ∧ D.down = true then (9, []) else (0, rowsL D at_ n.toNat) := by
      unfold bread
      rw [if_neg (by omega), if_neg (by simp [hb0])]
    have HB := Lib.hid (And.intro hb0 hbr); clear hb0 hbr
    clear h
    generalize hdn : D.down = dn at *
    have HDN := Lib.hid hdn; clear hdn
    obtain ⟨q, rfl⟩ : ∃ q : Nat, n = q := ⟨n.toNat, by omega⟩
    go_enter Tryz.func30, Tryz.ntmps30
    go_wp2_with fail
    refine (csectors_any H.out).mono ?_
    rintro r w1 ⟨rfl, rfl⟩
    rw [HN.out]
    go_wp2_with fail
    refine (bmay_any H.out at_ q ha).mono ?_
    rintro r w1 ⟨rfl, rfl⟩
    rw [HB.out.1]
    go_wp2
    go_loopw [9, 32] (fun vv i wr => ∃ (v : Value) (j : Nat) (now' hits' misses' : Int) (l' : KL) (T' : TL), v = vv ∧ j ≤ q ∧ i = .int .i64 j ∧ (0 < j → dn = false) ∧ CAt wr c b ms mo mk D most now' hits' misses' l' T' ∧ CTo w wr c b ms mo mk l l' ∧ now' ≤ now + j ∧
      wr.ownsRow w.heap.size 5 1 v (512 * j) ((rowsL D at_ j).map (Value.int .u8)) ∧ (∀ g, v.ownBlock = some g → ¬ InA c b ms mo mk l' g)) (fun _ i _ => q - (intOf i).toNat)
    case atStart => exact ⟨_, 0, now, hits, misses, l, T, rfl, Nat.zero_le _, rfl, (fun h => absurd h (by omega)), H.out, CTo.same (Mod.refl _ _), by omega, World.ownsRow_nil _ _ _ _, (fun g hg => by cases hg)⟩
    case round =>
      obtain ⟨v, j, now', hits', misses', l', T', rfl, hj, rfl, hup, hC, hT, hnw, hown, hnin⟩ := hrel
      obtain ⟨wo, rfl⟩ : ∃ wo : World, wo = wr := ⟨_, rfl⟩
      by_cases hlt : j < q
      · have hlt' : (j : Int) < q := by omega
        have hmay : D.may (at_ + j) = if dn = true then 9 else 0 := by
          unfold Dk.may
          rw [HDN.out]
          cases dn with
          | true => rfl
          | false => simp; rw [HN.out]; omega
        cases dn with
        | true =>
          have HM := Lib.hid (show D.may (at_ + j) = 9 from hmay); clear hmay
          have hj0 : j = 0 := Classical.byContradiction fun hc => by have := hup (by omega); cases this
          have HJ0 := Lib.hid hj0; clear hj0
          have HBR := Lib.hid (show bread D at_ q = (9, []) by rw [HB.out.2, if_pos ⟨by omega, rfl⟩])
          clear hup hnin hown
          go_wp2_with fail
          refine (cread_any hC _ (by omega)).mono ?_
          rintro r w2 ⟨v2, now2, hits2, misses2, l2, T2, rfl, hC2, hT2, o2, nin2, cnt2⟩
          have n2 := cnt2.le
          have hM9 := HM.out
          rw [hM9]
          have HP : Hid (BReadP w c b ms mo mk D most now l at_ q (.returned (.tuple #[.slice none 0 0, .int .i64 9])) w2) := Lib.hid
            ⟨_, now2, hits2, misses2, l2, T2, by rw [HBR.out], hC2, hT.trans hT2, by have := HJ0.out; omega, by rw [HBR.out]; exact World.ownsRow_nil _ _ _ _, (fun g hg => by cases hg)⟩
          clear hC2 hT2 o2 nin2 cnt2 n2 hC hT hnw hM9
          go_wp2
          go_ret2
          exact HP.out
        | false =>
          have HM := Lib.hid (show D.may (at_ + j) = 0 from hmay); clear hmay
          have hrd : D.read (at_ + j) = D.latest (at_ + j) := by unfold Dk.read; rw [if_pos HM.out]
          have hll := hC.d.ok.latest_len (at_ + j)
          have HR := Lib.hid (And.intro hrd hll); clear hrd hll
          have HRS := Lib.hid (rowsL_succ D at_ j)
          have hlW : ∀ k, InW c b ms mo mk k → k < w.heap.size := fun k hk => H.out.lt k (inA_of hk)
          have HLW := Lib.hid hlW; clear hlW
          go_wp2_with fail
          refine (cread_any hC (at_ + j) (by omega)).mono ?_
          rintro r w2 ⟨v2, now2, hits2, misses2, l2, T2, rfl, hC2, hT2, o2, nin2, cnt2⟩
          rw [HM.out]
          rw [HR.out.1, HR.out.2] at o2
          have n2 := cnt2.le
          have hown2 := own_mod hown hT2.md (fun g hg hin => by have := own_ge5 hown g hg; have := HLW.out g hin; omega)
          have hvA2 : ∀ g, v.ownBlock = some g → ¬ InA c b ms mo mk l2 g := fun g hg hin => by
            rcases hT2.A hin with h3 | h3
            · exact hnin g hg h3
            · obtain ⟨A0, c0, hv0, -, hA0⟩ := own_form hown
              rw [hv0] at hg
              have := (hA0 g (own_of hg)).2; omega
          obtain ⟨A2, cc2, rfl, hr2, -⟩ := own_rd o2
          have hs2 := hT2.md.size
          have hs0 := hT.md.size
          have HC2 := Lib.hid (And.intro hC2 (And.intro (hT.trans hT2) hvA2))
          clear hC hT hown hnin cnt2 nin2 o2 hC2 hT2 hvA2
          go_wp2_with (first
            | (with_reducible change wpList _ _ _ (⟨some 48, _, _, _, _, _⟩ :: _) _ _
               go_must (refine wpList_append_rd 29 _ _ rfl rfl w.heap.size 5 (.int .u8 0) 1 1 Tryz.underlying29 info_byteC rfl (by omega) v (512 * j) ((rowsL D at_ j).map (Value.int .u8)) rfl hown2 _ 512 _ ((D.latest (at_ + j)).map (Value.int .u8)) rfl hr2.toC (ints_oneCell _ _) (by omega) (by omega) (by omega) ?_)
               intro v3 w3 o3 g3 b3
               have M3 : Mod (fun g => v.ownBlock = some g) w2 w3 := (Mod.refl _ _).grown g3 (fun g hg => .inr hg)
               have hC3 := HC2.out.1.mod M3 (fun k hk hs => HC2.out.2.2 k hs hk)
               have hT3 : CTo w w3 c b ms mo mk l l2 := ⟨HC2.out.2.1.md.then_ M3 (fun k hk hs => by have := own_ge5 hown2 k hs; omega), HC2.out.2.1.G⟩
               have hv3 : ∀ g, v3.ownBlock = some g → ¬ InA c b ms mo mk l2 g := fun g hg hin => by
                 rcases b3 with h3 | h3
                 · exact HC2.out.2.2 g (h3.symm.trans hg) hin
                 · rw [h3] at hg; injection hg with hg; have := HC2.out.1.lt g hin; omega
               rw [← List.map_append, ← HRS.out] at o3
               have H3 := Lib.hid (And.intro hC3 (And.intro hT3 (And.intro o3 hv3)))
               clear g3 b3 M3 hC3 hT3 hv3 o3 hown2 hr2))
          exact ⟨⟨v3, j + 1, now2, hits2, misses2, l2, T2, rfl, by omega, by go_num, (by simp), H3.out.1, H3.out.2.1, by omega, H3.out.2.2.1, H3.out.2.2.2⟩, by simp [intOf]; omega⟩
      · have hjq : j = q := by omega
        subst hjq
        have HBR : Hid (bread D at_ j = (0, rowsL D at_ j)) := Lib.hid (by
          rw [HB.out.2]
          by_cases hj0 : 0 < j
          · rw [hup hj0, if_neg (by simp)]; simp
          · rw [if_neg (by omega)]; simp)
        have hlt' : ¬ (j : Int) < j := by omega
        have HP : Hid (BReadP w c b ms mo mk D most now l at_ j (.returned (.tuple #[v, .int .i64 0])) wo) := Lib.hid
          ⟨v, now', hits', misses', l', T', by rw [HBR.out], hC, hT, by omega, by rw [HBR.out, rowsL_len hC.d.ok]; exact hown, hnin⟩
        clear hC hT hown hnin hnw hup
        go_wp2
        go_ret2
        exact HP.out
  · have HP := Lib.hid (BReadP.none H.out (show bread D at_ n = (6, []) by unfold bread; rw [if_neg (by omega), if_pos (by rw [hb6]; omega)]) (Mod.refl Nn w))
    have HB := Lib.hid hb6; clear hb6
    go_enter Tryz.func30, Tryz.ntmps30
    go_wp2_with fail
    refine (csectors_any H.out).mono ?_
    rintro r w1 ⟨rfl, rfl⟩
    rw [HN.out]
    go_wp2_with fail
    refine (bmay_any H.out at_ n ha).mono ?_
    rintro r w1 ⟨rfl, rfl⟩
    rw [HB.out]
    clear h
    go_wp2
    go_ret2
    exact HP.out
end
end Go.Proofs.YtijmkbhbpbkkoaaGreat
