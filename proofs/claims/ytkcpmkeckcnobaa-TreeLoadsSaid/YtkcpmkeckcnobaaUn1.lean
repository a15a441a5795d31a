/- (*peatbankref16.reader).under. -/
import Derived.Test.YtkcpmkeckcnobaaUn0
import Derived.Test.YtkcpmkeckcnobaaNdRa
import Derived.Test.YtkcpmkeckcnobaaRt1
import Derived.Test.YtkcpmkeckcnobaaWkA
import Derived.Test.YtkcpmkeckcnobaaTrI
namespace Go.Proofs.Ytkcpmkeckcnobaa
open Go.RowKit

theorem uuIu : Try.prog.underlying 64 = some (.slice 3) := Try.underlying64
theorem size_intu : (Try.prog.info? 3).map (·.size) = some 1 := by kernel_rfl
theorem RdC.rowAt {w : World} {g off n k i : Nat} {L : List (List Nat)} {r : List Nat} (h : RdC w (some ⟨g, off, none⟩) n k (bv L.flatten)) (hr : Rows k L) (hi : L[i]? = some r) (hn : 0 < n) : ∀ j v, (bv r)[j]? = some v → w.cell? ⟨g, off + i * k + j, none⟩ = some v := by
  obtain ⟨g', o', e, h⟩ := h.row hr hi hn
  injection e with e; injection e with e1 e2 _; subst e1 e2
  exact h
theorem own_not {w : World} {base n s g : Nat} {e t : TypeId} {v : Value} {xs : List Value} {cs : Array Value} (h : w.ownsRow base e s v n xs) (hb : Blk w g t cs) (hne : t ≠ e) : ¬ v.ownBlock = some g := fun hg => by
  obtain ⟨_, _, _, _, hb', _⟩ := own_blk_eq h hg
  exact hb.ne_ hb' hne rfl
theorem size_boolu : (Try.prog.info? 4).map (·.size) = some 1 := by kernel_rfl
theorem uuB : Try.prog.underlying 80 = some (.slice 4) := Try.underlying80
/-- a node, and where its slices lie -/
structure NX where
  N : Nd
  EA : Option Addr
  en : Nat
  ec : Nat
  KA : Option Addr
  kn : Nat
  kc : Nat
  CA : Option Addr
  cn : Nat
  cc : Nat
def NX.cells (x : NX) : List Value := [.bool x.N.leaf, .slice x.EA x.en x.ec, .slice x.KA x.kn x.kc, .slice x.CA x.cn x.cc]
theorem NX.len (x : NX) : x.cells.length = 4 := rfl
structure NsAt (w : World) (A : Option Addr) (n : Nat) (Xs : List NX) : Prop where
  rd : RdC w A n 4 (flat NX.cells Xs)
  len : Xs.length = n
  nd : ∀ x ∈ Xs, NdR w x.N x.EA x.en x.KA x.kn x.CA x.cn
theorem NsAt.nn {w w' : World} {A : Option Addr} {n : Nat} {Xs : List NX} (h : NsAt w A n Xs) (hm : Mod Nn w w') : NsAt w' A n Xs := ⟨h.rd.md (by omega) hm (fun _ _ f => f), h.len, fun x hx => (h.nd x hx).nn hm⟩
theorem NsAt.node {w : World} {A : Option Addr} {n i : Nat} {Xs : List NX} {x : NX} (h : NsAt w A n Xs) (hx : Xs[i]? = some x) : ∃ g off, A = some ⟨g, off, none⟩ ∧ ∀ j v, x.cells[j]? = some v → w.cell? ⟨g, off + i * 4 + j, none⟩ = some v := by
  have hi := (List.getElem?_eq_some_iff.1 hx).1
  obtain ⟨g, off, hA, hc⟩ := h.rd.2 (by have := h.len; omega)
  refine ⟨g, off, hA, fun j v hv => ?_⟩
  have hj : j < 4 := by have := (List.getElem?_eq_some_iff.1 hv).1; rwa [NX.len] at this
  rw [Nat.add_assoc]
  exact hc _ v (by rw [flat_at NX.len Xs i j hj, hx]; exact hv)
/-- the reader in memory -/
structure Rdr (w : World) (rb gs : Nat) (A : Option Addr) (n c cs : Nat) (bad : Bool) (σ : List Bool) : Prop where
  blk : Blk w rb 117 #[.slice A n c, .slice (some ⟨gs, 0, none⟩) n cs, .bool bad]
  row : Blk w gs 4 (σ.map Value.bool).toArray
  len : σ.length = n
section
variable {w w' : World} {rb gs n c cs : Nat} {A : Option Addr} {bad : Bool} {σ : List Bool}
theorem Rdr.nn (h : Rdr w rb gs A n c cs bad σ) (hm : Mod Nn w w') : Rdr w' rb gs A n c cs bad σ := ⟨h.blk.mod hm (fun f => f), h.row.mod hm (fun f => f), h.len⟩
theorem Rdr.setBad (h : Rdr w rb gs A n c cs bad σ) (hne : rb ≠ gs) : Rdr (w.setCell ⟨rb, 2, none⟩ (.bool true)) rb gs A n c cs true σ :=
  ⟨h.blk.set_ 2 _, h.row.mod (Mod.cellAt _ _ _ _ : Mod (At rb) w (w.setCell ⟨rb, 2, none⟩ (.bool true))) (fun e => hne (by have e : gs = rb := e; exact e.symm)), h.len⟩
theorem Rdr.see (h : Rdr w rb gs A n c cs bad σ) (hne : rb ≠ gs) (k : Nat) : Rdr (w.setCell ⟨gs, k, none⟩ (.bool true)) rb gs A n c cs bad (σ.set k true) := by
  refine ⟨h.blk.mod (Mod.cellAt _ _ _ _ : Mod (At gs) w (w.setCell ⟨gs, k, none⟩ (.bool true))) (fun e => hne e), ?_, by rw [List.length_set]; exact h.len⟩
  have := h.row.set_ k (.bool true)
  rwa [List.setIfInBounds_toArray, ← List.map_set] at this
end
def UndP (w : World) (rb gs : Nat) (A : Option Addr) (n c cs : Nat) (res : UR) (r : Ending) (w' : World) : Prop :=
  Mod (fun g => g = rb ∨ g = gs) w w' ∧ (match res with
    | none => r = .returned (.tuple #[.slice none 0 0, .int .i64 0]) ∧ ∃ σ, Rdr w' rb gs A n c cs true σ
    | some (L, d, σ) => ∃ B cB, r = .returned (.tuple #[.slice B L.length cB, .int .i64 (d : Nat)]) ∧ RdC w' B L.length 80 (bv L.flatten) ∧ Rdr w' rb gs A n c cs false σ)
section
variable {w : World} {rb gs n c cs : Nat} {A : Option Addr} {σ : List Bool} {a : Int} {top : Bool}
set_option maxRecDepth 100000 in
set_option maxHeartbeats 6400000 in
theorem under_bad (hR : Rdr w rb gs A n c cs false σ) (hne : rb ≠ gs) (hg : a < 0 ∨ (n : Int) ≤ a ∨ ∃ k : Nat, a = k ∧ k < n ∧ σ[k]? = some true) : Calls Try.prog 52 #[.pointer (some ⟨rb, 0, none⟩), .int .i64 a, .bool top] w (UndP w rb gs A n c cs none) := by
  have hc0 := hR.blk.cell 0
  have hc1 := hR.blk.cell 1
  have HR := Lib.hid hR
  clear hR
  rcases hg with hg | hg | ⟨k, rfl, hk, hs⟩
  · go_enter Try.func52, Try.ntmps52
    go_wp2_with (first
      | (with_reducible change wpList _ _ _ (⟨none, Op.store _ (Operand.tmp 43) _, _, _, _, _⟩ :: _) _ _
         go_must (refine wpList_unit rfl (exec_store1 (P := Try.prog) (ad := ⟨rb, 2, none⟩) (v := .bool true) (u := .bool false) 4 _ _ rfl rfl rfl (HR.out.blk.cell 2) (HR.out.blk.frozen 2) rfl rfl rfl size_boolu) ?_)
         have hb9 := Rdr.setBad HR.out hne
         have m9 : Mod (At rb) w (w.setCell ⟨rb, 2, none⟩ (.bool true)) := Mod.cellAt _ _ _ _
         generalize w.setCell ⟨rb, 2, none⟩ (.bool true) = w9 at *
         have H9 := Lib.hid (And.intro hb9 m9)
         clear hb9 m9))
    go_ret2
    exact ⟨H9.out.2.mono (fun g _ e => .inl e), rfl, _, H9.out.1⟩
  · have hg0 : ¬ a < 0 := by omega
    go_enter Try.func52, Try.ntmps52
    go_wp2_with (first
      | (with_reducible change wpList _ _ _ (⟨none, Op.store _ (Operand.tmp 43) _, _, _, _, _⟩ :: _) _ _
         go_must (refine wpList_unit rfl (exec_store1 (P := Try.prog) (ad := ⟨rb, 2, none⟩) (v := .bool true) (u := .bool false) 4 _ _ rfl rfl rfl (HR.out.blk.cell 2) (HR.out.blk.frozen 2) rfl rfl rfl size_boolu) ?_)
         have hb9 := Rdr.setBad HR.out hne
         have m9 : Mod (At rb) w (w.setCell ⟨rb, 2, none⟩ (.bool true)) := Mod.cellAt _ _ _ _
         generalize w.setCell ⟨rb, 2, none⟩ (.bool true) = w9 at *
         have H9 := Lib.hid (And.intro hb9 m9)
         clear hb9 m9))
    go_ret2
    exact ⟨H9.out.2.mono (fun g _ e => .inl e), rfl, _, H9.out.1⟩
  · have hg0 : ¬ (k : Int) < 0 := by omega
    have hg1 : ¬ (n : Int) ≤ k := by omega
    have hk' : (k : Int) < n := by omega
    have hcs : w.cell? ⟨gs, k, none⟩ = some (.bool true) := (HR.out.row.cell k).trans (by simp [hs])
    go_enter Try.func52, Try.ntmps52
    go_wp2_with (first
      | (with_reducible change wpList _ _ _ (⟨none, Op.store _ (Operand.tmp 43) _, _, _, _, _⟩ :: _) _ _
         go_must (refine wpList_unit rfl (exec_store1 (P := Try.prog) (ad := ⟨rb, 2, none⟩) (v := .bool true) (u := .bool false) 4 _ _ rfl rfl rfl (HR.out.blk.cell 2) (HR.out.blk.frozen 2) rfl rfl rfl size_boolu) ?_)
         have hb9 := Rdr.setBad HR.out hne
         have m9 : Mod (At rb) w (w.setCell ⟨rb, 2, none⟩ (.bool true)) := Mod.cellAt _ _ _ _
         generalize w.setCell ⟨rb, 2, none⟩ (.bool true) = w9 at *
         have H9 := Lib.hid (And.intro hb9 m9)
         clear hb9 m9))
    go_ret2
    exact ⟨H9.out.2.mono (fun g _ e => .inl e), rfl, _, H9.out.1⟩
end
end Go.Proofs.Ytkcpmkeckcnobaa
