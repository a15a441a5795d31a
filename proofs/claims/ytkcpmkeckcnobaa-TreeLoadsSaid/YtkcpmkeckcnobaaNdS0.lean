/- peatbankkit over nodes: SameNode (of a node and itself). -/
import Derived.Test.YtkcpmkeckcnobaaNdA
import Derived.Test.YtkcpmkeckcnobaaRwS
import Derived.Test.YtkcpmkeckcnobaaRwSI
namespace Go.Proofs.Ytkcpmkeckcnobaa
open Go.RowKit

theorem info_node : (Try.prog.info? 77).map (fun i => (i.zero, i.size)) = some (some (.agg #[.bool false, .slice none 0 0, .slice none 0 0, .slice none 0 0]), 4) := by kernel_rfl
theorem one_nd (lf : Bool) (A B C : Option Addr) (a b c d e f : Nat) : (#[.bool lf, .slice A a b, .slice B c d, .slice C e f] : Array Value).all (·.oneCell') = true := by simp [Value.oneCell']
section
variable {w : World} {N : Nd} {EA KA CA EB KB CB : Option Addr} {en ec kn kc cn cc ed kd cd : Nat}
set_option maxRecDepth 100000 in
set_option maxHeartbeats 3200000 in
theorem sameN_yes {lf : Bool} (ha : NdR w N EA en KA kn CA cn) (hb : NdR w N EB en KB kn CB cn) :
    Calls Try.prog 59 #[ndV lf EA en ec KA kn kc CA cn cc, ndV lf EB en ed KB kn kd CB cn cd] w fun r w' => r = .returned (.bool true) ∧ Mod Nn w w' := by
  unfold ndV
  have m1 : Mod Nn w ((w.alloc (.cells #[.bool lf, .slice EA en ec, .slice KA kn kc, .slice CA cn cc] 77)).alloc (.cells #[.bool lf, .slice EB en ed, .slice KB kn kd, .slice CB cn cd] 77)) := ((Mod.refl Nn w).alloc _).alloc _
  have b1 : Blk ((w.alloc (.cells #[.bool lf, .slice EA en ec, .slice KA kn kc, .slice CA cn cc] 77)).alloc (.cells #[.bool lf, .slice EB en ed, .slice KB kn kd, .slice CB cn cd] 77)) w.heap.size 77 #[.bool lf, .slice EA en ec, .slice KA kn kc, .slice CA cn cc] := (Blk.new w _ _).alloc _
  have b2 : Blk ((w.alloc (.cells #[.bool lf, .slice EA en ec, .slice KA kn kc, .slice CA cn cc] 77)).alloc (.cells #[.bool lf, .slice EB en ed, .slice KB kn kd, .slice CB cn cd] 77)) (w.heap.size + 1) 77 #[.bool lf, .slice EB en ed, .slice KB kn kd, .slice CB cn cd] := by
    have := Blk.new (w.alloc (.cells #[.bool lf, .slice EA en ec, .slice KA kn kc, .slice CA cn cc] 77)) 77 #[.bool lf, .slice EB en ed, .slice KB kn kd, .slice CB cn cd]
    rwa [show (w.alloc (.cells #[.bool lf, .slice EA en ec, .slice KA kn kc, .slice CA cn cc] 77)).heap.size = w.heap.size + 1 from by simp] at this
  have H := Lib.hid (And.intro m1 (And.intro b1 (And.intro b2 (And.intro ha hb))))
  clear m1 b1 b2 ha hb
  go_enter Try.func59, Try.ntmps59
  go_wp2_with fail
  refine (sameE_yes_ (H.out.2.2.2.1.nn H.out.1).e (H.out.2.2.2.2.nn H.out.1).e H.out.2.2.2.1.ok.e H.out.2.2.2.1.el H.out.2.2.2.1.be).mono ?_
  rintro r w2 ⟨rfl, m2⟩
  have M2 := Lib.hid (H.out.1.nn_ m2)
  have C2 : w2.cell? ⟨w.heap.size, 2, none⟩ = some (.slice KA kn kc) := (H.out.2.1.mod m2 (fun f => f)).cell 2
  have D2 : w2.cell? ⟨w.heap.size + 1, 2, none⟩ = some (.slice KB kn kd) := (H.out.2.2.1.mod m2 (fun f => f)).cell 2
  have B2 := Lib.hid (And.intro (H.out.2.1.mod m2 (fun f => f)) (H.out.2.2.1.mod m2 (fun f => f)))
  clear m2
  go_wp2_with fail
  refine (sameK_yes (H.out.2.2.2.1.nn M2.out).k (H.out.2.2.2.2.nn M2.out).k H.out.2.2.2.1.ok.k H.out.2.2.2.1.kl H.out.2.2.2.1.bk).mono ?_
  rintro r w3 ⟨rfl, m3⟩
  have M3 := Lib.hid (M2.out.nn_ m3)
  have C3 : w3.cell? ⟨w.heap.size, 3, none⟩ = some (.slice CA cn cc) := (B2.out.1.mod m3 (fun f => f)).cell 3
  have D3 : w3.cell? ⟨w.heap.size + 1, 3, none⟩ = some (.slice CB cn cd) := (B2.out.2.mod m3 (fun f => f)).cell 3
  clear m3 C2 D2
  go_wp2_with fail
  refine (sameI_any (H.out.2.2.2.1.nn M3.out).c (H.out.2.2.2.2.nn M3.out).c (by have := H.out.2.2.2.1.bc; omega) (by have := H.out.2.2.2.1.bc; omega)).mono ?_
  rintro r w4 ⟨rfl, m4⟩
  rw [decide_eq_true rfl]
  have M4 := Lib.hid (M3.out.nn_ m4)
  clear m4 C3 D3
  go_wp2
  go_ret
  exact ⟨rfl, M4.out⟩
/-- a node copied: its rows new memory -/
structure CopW (w wr : World) (p q : Nat) (cs : Array Value) : Prop where
  m : Mod Nn w wr
  box : Blk wr p 77 cs
  res : Blk wr q 77 #[.bool false, .slice none 0 0, .slice none 0 0, .slice none 0 0]
  wp : w.heap.size ≤ p
  pq : p < q
theorem CopW.nn {wr w' : World} {p q : Nat} {cs : Array Value} (h : CopW w wr p q cs) (hm : Mod Nn wr w') : CopW w w' p q cs := ⟨h.m.nn_ hm, h.box.mod hm (fun f => f), h.res.mod hm (fun f => f), h.wp, h.pq⟩
theorem CopW.set {wr : World} {p q : Nat} {cs : Array Value} (h : CopW w wr p q cs) (i : Nat) (v : Value) : CopW w (wr.setCell ⟨p, i, none⟩ v) p q (cs.setIfInBounds i v) :=
  ⟨h.m.new_ (Mod.cellAt _ _ _ _) h.wp, h.box.set_ i v, h.res.mod (Mod.cellAt _ _ _ _) (fun e => by have e : q = p := e; have := h.pq; omega), h.wp, h.pq⟩
theorem CopW.far {wr : World} {p q i base s n : Nat} {cs : Array Value} {e : TypeId} {u v : Value} {xs : List Value} (h : CopW w wr p q cs) (ho : wr.ownsRow base e s v n xs) (hb : q < base) : (wr.setCell ⟨p, i, none⟩ u).ownsRow base e s v n xs :=
  own_mod ho (Mod.cellAt _ _ _ _) (fun g hg e => by have e : g = p := e; have := own_ge ho g hg; have := h.pq; omega)
end
end Go.Proofs.Ytkcpmkeckcnobaa
