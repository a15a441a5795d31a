/- blob.sectors: the iterator over a row's sectors; its closure, for every loop body that leaves the two boxes and the row alone. -/
import Derived.Test.YtgmkibckbbbhkaaCa5
import Derived.RangeFuncNested
import Derived.RangeFuncBound
import Derived.RangeFuncCalls
import Derived.RangeFuncLeaves
import Derived.Shelf.Abstract
import Derived.Shelf.RegionOpen
import Derived.OwnWalkIn
import Derived.TacticsInMore
import Derived.LoopNIn
import Derived.LoopIn
namespace Go.Proofs.Ytgmkibckbbbhkaa
open Go.RowKit Go.Shelf
attribute [local go_sem] Oper.semAt_some

/-- the two boxes of the closure, i sectors having come -/
structure SC (W : World) (Ba Bb : Nat) (at0 : Int) (A : Option Addr) (n c : Nat) (bs : List Int) (i : Nat) (Ai : Option Addr) : Prop where
  a : Blk W Ba 3 #[.int .i64 (at0 + i)]
  b : Blk W Bb 35 #[.slice Ai (n - 512 * i) (c - 512 * i)]
  o : ∀ g, Of Ai g → Of A g
  r : Rd W Ai (n - 512 * i) ((bs.drop (512 * i)).map (Value.int .u8))
theorem SC.mod {W W' : World} {Ba Bb : Nat} {at0 : Int} {A Ai : Option Addr} {n c i : Nat} {bs : List Int} {S : Nat → Prop} (h : SC W Ba Bb at0 A n c bs i Ai) (hm : Mod S W W') (h1 : ¬ S Ba) (h2 : ¬ S Bb) (h3 : ∀ g, Of A g → ¬ S g) : SC W' Ba Bb at0 A n c bs i Ai :=
  ⟨h.a.mod hm h1, h.b.mod hm h2, h.o, h.r.mod hm (fun g hg => h3 g (h.o g hg))⟩
def nxt (A : Option Addr) (p : Nat) : Option Addr := if p = 512 then A else Option.map (fun x => { block := x.block, off := x.off + 512 }) A
theorem nxt_of {A : Option Addr} {p g : Nat} (h : Of (nxt A p) g) : Of A g := by
  unfold nxt at h
  split at h
  · exact h
  · cases A with
    | none => obtain ⟨a, ha, _⟩ := h; cases ha
    | some a => obtain ⟨b, hb, hbg⟩ := h; injection hb with hb; subst hb; exact ⟨a, rfl, hbg⟩
theorem nxt_rd {w : World} {A : Option Addr} {p q : Nat} {xs : List Value} (h : Rd w A q xs) (hq : 512 ≤ q) (hp : q ≤ p) : Rd w (nxt A p) (q - 512) (xs.drop 512) := by
  have h1 := h.post (c := p) 512 hq hp
  refine ⟨h1.1, fun hpos => ?_⟩
  obtain ⟨g, off, rfl, hc⟩ := h.2 (by omega)
  obtain ⟨g', off', hA, hc'⟩ := h1.2 hpos
  refine ⟨g', off', ?_, hc'⟩
  rw [← hA]
  unfold nxt subA
  rw [if_neg (by omega), if_neg (by omega)]
  rfl
theorem SC.next {W : World} {Ba Bb : Nat} {at0 : Int} {A Ai : Option Addr} {n c i m : Nat} {bs : List Int} (h : SC W Ba Bb at0 A n c bs i Ai) (hn : n = 512 * m) (hi : i < m) (hnc : n ≤ c) (hab : Ba ≠ Bb) (hA : ∀ g, Of A g → g ≠ Ba ∧ g ≠ Bb) :
    SC ((W.setCell ⟨Bb, 0, none⟩ (.slice (nxt Ai (c - 512 * i)) (n - 512 * i - 512) (c - 512 * i - 512))).setCell ⟨Ba, 0, none⟩ (.int .i64 (at0 + i + 1))) Ba Bb at0 A n c bs (i + 1) (nxt Ai (c - 512 * i)) := by
  have m1 : Mod (At Bb) W (W.setCell ⟨Bb, 0, none⟩ (.slice (nxt Ai (c - 512 * i)) (n - 512 * i - 512) (c - 512 * i - 512))) := Mod.cellAt _ _ _ _
  have m2 : Mod (At Ba) (W.setCell ⟨Bb, 0, none⟩ (.slice (nxt Ai (c - 512 * i)) (n - 512 * i - 512) (c - 512 * i - 512))) ((W.setCell ⟨Bb, 0, none⟩ (.slice (nxt Ai (c - 512 * i)) (n - 512 * i - 512) (c - 512 * i - 512))).setCell ⟨Ba, 0, none⟩ (.int .i64 (at0 + i + 1))) := Mod.cellAt _ _ _ _
  have hb := (h.b.set_ 0 (.slice (nxt Ai (c - 512 * i)) (n - 512 * i - 512) (c - 512 * i - 512))).mod m2 (fun e => hab (e : Bb = Ba).symm)
  have ha := (h.a.mod m1 (fun e => hab (e : Ba = Bb))).set_ 0 (.int .i64 (at0 + i + 1))
  have hr := (nxt_rd h.r (p := c - 512 * i) (by omega) (by omega)).mod m1 (fun g hg e => (hA g (h.o g (nxt_of hg))).2 e)
  have hr2 := hr.mod m2 (fun g hg e => (hA g (h.o g (nxt_of hg))).1 e)
  refine ⟨?_, ?_, fun g hg => h.o g (nxt_of hg), ?_⟩
  · have e : at0 + ((i + 1 : Nat) : Int) = at0 + i + 1 := by omega
    rw [e]; exact ha
  · rw [show n - 512 * (i + 1) = n - 512 * i - 512 from by omega, show c - 512 * (i + 1) = c - 512 * i - 512 from by omega]; exact hb
  · rw [show n - 512 * (i + 1) = n - 512 * i - 512 from by omega, show 512 * (i + 1) = 512 * i + 512 from by omega]
    rw [← List.map_drop, List.drop_drop] at hr2
    exact hr2
def RndP (J Jx S : World → Prop) (ok : Bool) (W : World) : Prop := (ok = true → J W ∧ S W) ∧ (ok = false → Jx W)
theorem sectors_it (at0 : Int) (v : Value) (hv : v.oneCell' = true) (hvc : v.cells = #[v]) (w : World) :
    Calls Try.prog 89 #[.int .i64 at0, v] w fun e w' => e = .returned (.func (.func 119) #[] #[.pointer (some ⟨w.heap.size + 1, 0, none⟩), .pointer (some ⟨w.heap.size, 0, none⟩)]) ∧ (w.alloc (.cells #[.int .i64 at0] 3)).alloc (.cells #[v] 35) = w' := by
  go_enter Try.func89, Try.ntmps89
  go_wp2
  go_ret
  exact ⟨rfl, rfl⟩

set_option maxRecDepth 100000 in
set_option maxHeartbeats 3200000 in
theorem secs_in (l Ba Bb m n c : Nat) (at0 : Int) (A : Option Addr) (bs : List Int) (J Jx : Nat → World → Prop) (hn : n = 512 * m) (hnc : n ≤ c) (hab : Ba ≠ Bb) (hAa : ∀ g, Of A g → g ≠ Ba ∧ g ≠ Bb) (h0 : 0 ≤ at0) (h1 : at0 + m ≤ 1152921504606846976) (hcm : c ≤ 1152921504606846976)
    (hJ : ∀ i W W', J i W → Mod (fun k => k = Ba ∨ k = Bb) W W' → J i W')
    (hY : ∀ i W Ai, i < m → J i W → SC W Ba Bb at0 A n c bs i Ai → YieldAt Fence.wide 1 Try.prog l #[.int .i64 (at0 + i), .slice Ai 512 (c - 512 * i)] W fun e W' =>
      ∃ ok : Bool, e = .returned (.bool ok) ∧ RndP (J (i + 1)) (Jx (i + 1)) (fun W => SC W Ba Bb at0 A n c bs i Ai) ok W')
    (W : World) (hJ0 : J 0 W) (hS0 : SC W Ba Bb at0 A n c bs 0 A) :
    CallsIn Fence.wide 2 Try.prog 119 #[.func (.yield l) #[] #[], .pointer (some ⟨Bb, 0, none⟩), .pointer (some ⟨Ba, 0, none⟩)] W fun e W' => (∃ v, e = .returned v) ∧ (J m W' ∨ ∃ i, i ≤ m ∧ Jx i W') := by
  refine callsIn_of_wp Try.func119 rfl trivial ?_ rfl
  simp only [Try.ntmps119, List.size_toArray, List.length_cons, List.length_nil, Nat.reduceAdd, Nat.reduceSub, Array.replicate_succ, Array.replicate_zero, List.push_toArray, List.append_toArray, List.nil_append, List.cons_append]
  gi_wp2
  gi_loopw [4] (fun v4 wr => ∃ (i : Nat) (Ai : Option Addr) (v : Value), v = v4 ∧ i ≤ m ∧ J i wr ∧ SC wr Ba Bb at0 A n c bs i Ai) (fun _ wr => match wr.cell? ⟨Bb, 0, none⟩ with | some (.slice _ q _) => q | _ => 0)
  case atStart => exact ⟨0, A, _, rfl, Nat.zero_le _, hJ0, hS0⟩
  case round =>
    obtain ⟨i, Ai, v, rfl, hi, hj, hs⟩ := hrel
    clear hJ0 hS0
    have cb : wr.cell? ⟨Bb, 0, none⟩ = some (.slice Ai (n - 512 * i) (c - 512 * i)) := hs.b.cell 0
    have ca : wr.cell? ⟨Ba, 0, none⟩ = some (.int .i64 (at0 + i)) := hs.a.cell 0
    by_cases hlt : i < m
    · have md : Mod (fun k => k = Ba ∨ k = Bb) wr wr.drew := (Mod.refl _ _).drew
      obtain ⟨fn, tmps, assign, body, hy, hR⟩ := hY i wr.drew Ai hlt (hJ _ _ _ hj md) (hs.mod ((Mod.refl Nn wr).drew) (fun f => f) (fun f => f) (fun _ _ f => f))
      have hpos : (0 : Int) < ((n - 512 * i : Nat) : Int) := by omega
      have h512 : 512 ≤ c - 512 * i := by omega
      have hq512 : 512 ≤ n - 512 * i := by omega
      have hmx : Try.prog.follows .mixedOrders = true := by kernel_rfl
      generalize hq : n - 512 * i = q at *
      generalize hp : c - 512 * i = p at *
      have HQ := Lib.hid (And.intro hq hp); clear hq hp
      have cbw := cb
      gi_wp2
      clear hs hj md
      gi_region_with_o ((refine hR.mono ?_; clear hR hy; rintro e W' ⟨ok, rfl, hP⟩))
      all_goals
        cases ok with
        | true =>
          obtain ⟨hJ1, hS1⟩ := hP.1 rfl
          have hb1 := hS1.b
          rw [HQ.out.1, HQ.out.2] at hb1
          have cb : W'.cell? ⟨Bb, 0, none⟩ = some (.slice Ai q p) := hb1.cell 0
          have fb := hb1.frozen 0
          have ca : W'.cell? ⟨Ba, 0, none⟩ = some (.int .i64 (at0 + i)) := hS1.a.cell 0
          have fa := hS1.a.frozen 0
          have hS2 := hS1.next hn hlt hnc hab hAa
          rw [HQ.out.1, HQ.out.2] at hS2
          have hJ2 := hJ _ _ _ hJ1 (((Mod.refl (fun k => k = Ba ∨ k = Bb) W').setCell (p := ⟨Bb, 0, none⟩) (.inr (.inr rfl)) (.slice (nxt Ai p) (q - 512) (p - 512))).setCell (p := ⟨Ba, 0, none⟩) (.inr (.inl rfl)) (.int .i64 (at0 + i + 1)))
          have hms : ((W'.setCell ⟨Bb, 0, none⟩ (.slice (nxt Ai p) (q - 512) (p - 512))).setCell ⟨Ba, 0, none⟩ (.int .i64 (at0 + i + 1))).cell? ⟨Bb, 0, none⟩ = some (.slice (nxt Ai p) (q - 512) (p - 512)) := by
            have := hS2.b.cell 0
            rw [show n - 512 * (i + 1) = q - 512 from by have := HQ.out.1; omega, show c - 512 * (i + 1) = p - 512 from by have := HQ.out.2; omega] at this
            exact this
          have HH := Lib.hid (And.intro hJ2 (And.intro hS2 hms)); clear hJ2 hS2 hms hJ1 hS1 hb1
          have HW := Lib.hid cbw
          gi_wp2
          refine ⟨⟨i + 1, nxt Ai p, _, rfl, by omega, HH.out.1, HH.out.2.1⟩, ?_⟩
          have e1 := HH.out.2.2
          unfold nxt at e1
          rw [e1, HW.out]
          show q - 512 < q
          omega
        | false =>
          have hX := hP.2 rfl
          gi_wp2
          refine bodyPost_ret (results_none rfl _ _ _) rfl ?_
          exact ⟨⟨_, rfl⟩, .inr ⟨i + 1, by omega, hX⟩⟩
    · have hz : n - 512 * i = 0 := by omega
      have him : i = m := by omega
      rw [hz] at cb
      subst him
      gi_wp2
      go_end0
      exact ⟨⟨_, rfl⟩, .inl hj⟩
end Go.Proofs.Ytgmkibckbbbhkaa
