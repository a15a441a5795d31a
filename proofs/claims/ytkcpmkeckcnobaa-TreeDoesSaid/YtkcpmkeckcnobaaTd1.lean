/- The tree and the document's tree side by side. -/
import Derived.Test.YtkcpmkeckcnobaaRt3
import Derived.Test.YtkcpmkeckcnobaaTrK
namespace Go.Proofs.Ytkcpmkeckcnobaa
open Go.RowKit

structure Dbl (w0 w : World) (b rb : Nat) (Lt Lu : List (List Nat)) (G : List Nat) (A : Option Addr) (n c : Nat) : Prop where
  t : TrAt w b Lt G
  u : U16 w rb A n c Lu
  rg : rb ∉ G
  ag : ∀ g, Of A g → g ∉ G
  cm : c ≤ maxLen
  g0 : ∀ g ∈ G, w0.heap.size ≤ g
  r0 : w0.heap.size ≤ rb
  md : Mod Nn w0 w
section
variable {w0 w w' : World} {b rb n c n' c' : Nat} {Lt Lu L' : List (List Nat)} {G G' : List Nat} {A A' : Option Addr}
theorem Dbl.nn (h : Dbl w0 w b rb Lt Lu G A n c) (hm : Mod Nn w w') : Dbl w0 w' b rb Lt Lu G A n c := ⟨h.t.nn hm, h.u.nn hm, h.rg, h.ag, h.cm, h.g0, h.r0, h.md.nn_ hm⟩
theorem Dbl.tr (h : Dbl w0 w b rb Lt Lu G A n c) (ht : TrAt w' b L' G') (hG : ∀ g ∈ G', g ∈ G ∨ w.heap.size ≤ g) (hm : Mod (· ∈ G) w w') : Dbl w0 w' b rb L' Lu G' A n c := by
  have hs := h.md.size
  have hr := h.u.blk.lt
  refine ⟨ht, h.u.mod hm h.rg h.ag, fun hx => (hG rb hx).elim h.rg (fun h => by omega), fun g hg hx => (hG g hx).elim (h.ag g hg) (fun h' => by have := h.u.lt g hg; omega), h.cm, fun g hg => (hG g hg).elim (h.g0 g) (fun h => by omega), h.r0, h.md.then_ hm (fun g hg hx => by have := h.g0 g hx; omega)⟩
theorem Dbl.rf (h : Dbl w0 w b rb Lt Lu G A n c) (hu : U16 w' rb A' n' c' L') (hc : c' ≤ maxLen) (hA : ∀ g, Of A' g → Of A g ∨ w.heap.size ≤ g) (hm : Mod (At rb) w w') : Dbl w0 w' b rb Lt L' G A' n' c' := by
  have hs := h.md.size
  exact ⟨h.t.mod hm (fun g hg (e : g = rb) => h.rg (e ▸ hg)), hu, h.rg, fun g hg hx => (hA g hg).elim (fun h' => h.ag g h' hx) (fun h' => by have := h.t.lt g hx; omega), hc, h.g0, h.r0, h.md.then_ hm (fun g hg (e : g = rb) => by have := h.r0; omega)⟩
end
/-- what a deed makes of the entries -/
def stepL (L : List (List Nat)) (kd n : Int) (v : Nat) : List (List Nat) :=
  if pick kd 6 = 0 ∨ pick kd 6 = 1 then ins L (en (pk n) v) else if pick kd 6 = 2 then dele L (kn (pk n)) else L
theorem stepL_len {L : List (List Nat)} (h : Srt L) (kd n : Int) (v : Nat) : (stepL L kd n v).length ≤ L.length + 1 := by
  unfold stepL
  split
  · rw [len_ins h]; split <;> omega
  · split
    · rw [len_dele h]; omega
    · omega
theorem stepL_srt {L : List (List Nat)} (h : Srt L) (kd n : Int) (v : Nat) : Srt (stepL L kd n v) := by
  unfold stepL
  split
  · exact srt_ins h _
  · split
    · exact srt_dele h _
    · exact h
def DoP (w0 : World) (b rb : Nat) (L : List (List Nat)) (r : Ending) (w' : World) : Prop := r = .returned (.bool true) ∧ ∃ G A n c, Dbl w0 w' b rb L L G A n c
end Go.Proofs.Ytkcpmkeckcnobaa
