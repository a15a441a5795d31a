/- The kit's bag over nodes: putInts, putTreeKeys, putEntries, putNodes, oneNode, apart; ApartNodes: nodes handed out lie apart, with the lists within them (printed by wip/gen/bagnodes.py). -/
import Derived.Test.YtfoldjnmknaklaaGreatFlN
import Derived.Test.YtfoldjnmknaklaaGreatFlI
import Derived.Test.YtfoldjnmknaklaaGreatFlK
import Derived.Test.YtfoldjnmknaklaaGreatFlE
import Derived.Test.YtfoldjnmknaklaaGreatFlatA
namespace Go.Proofs.YtfoldjnmknaklaaGreat
open Go.RowKit

theorem flatBytes_nil (w : World) : Calls Tryz.prog 72 #[.slice none 0 0] w fun e w' => e = .returned (.bool true) ∧ Mod Nn w w' :=
  (flatB_any (L := []) (Y := fun _ => []) (Rd.nil _ _) (fun j r h => by simp at h) (fun i j r q g h => by simp at h) (fun g h => by obtain ⟨a, ha, _⟩ := h; cases ha) (Nat.zero_le _) (fun j r h => by simp at h)).mono fun e w' ⟨h, hm⟩ => ⟨h, hm.mono (fun k _ ⟨j, r, hj, _⟩ => by simp at hj)⟩
def bagN (vI vK vE vN : Value) : Array Value := #[.slice none 0 0, .slice none 0 0, vI, .slice none 0 0, .slice none 0 0, .slice none 0 0, vK, .slice none 0 0, .slice none 0 0, .slice none 0 0, .slice none 0 0, vE, vN, .slice none 0 0, .slice none 0 0, .slice none 0 0, .slice none 0 0, .slice none 0 0, .slice none 0 0, .slice none 0 0, .slice none 0 0]
/-- a bag with nodes' rows: of numbers, keys, entries, nodes -/
structure BagS (w wr : World) (bb : Nat) (LI LK LE LN : List Row) (vI vK vE vN : Value) : Prop where
  b : Blk wr bb 93 (bagN vI vK vE vN)
  i : wr.ownsRow bb 30 1 vI LI.length (LI.map Row.v)
  k : wr.ownsRow bb 29 1 vK LK.length (LK.map Row.v)
  e : wr.ownsRow bb 28 1 vE LE.length (LE.map Row.v)
  n : wr.ownsRow bb 22 1 vN LN.length (LN.map Row.v)
  m : Mod Nn w wr
  g : w.heap.size ≤ bb
theorem own_ne {w : World} {b1 b2 n1 n2 s1 s2 g : Nat} {e1 e2 : TypeId} {v1 v2 : Value} {x1 x2 : List Value} (h1 : w.ownsRow b1 e1 s1 v1 n1 x1) (h2 : w.ownsRow b2 e2 s2 v2 n2 x2) (hne : e1 ≠ e2) (g1 : v1.ownBlock = some g) : ¬ v2.ownBlock = some g := fun g2 => by
  obtain ⟨_, _, _, _, k1, _⟩ := own_blk_eq h1 g1
  obtain ⟨_, _, _, _, k2, _⟩ := own_blk_eq h2 g2
  exact Blk.ne_ k1 k2 hne rfl
theorem blk_ne_own {w : World} {b1 n1 s1 g : Nat} {e1 t : TypeId} {v1 : Value} {x1 : List Value} {cs : Array Value} (h : Blk w g t cs) (h1 : w.ownsRow b1 e1 s1 v1 n1 x1) (hne : t ≠ e1) : ¬ v1.ownBlock = some g := fun g1 => by
  obtain ⟨_, _, _, _, k1, _⟩ := own_blk_eq h1 g1
  exact Blk.ne_ h k1 hne rfl
theorem BagS.nn {w wr w' : World} {bb : Nat} {LI LK LE LN : List Row} {vI vK vE vN : Value} (h : BagS w wr bb LI LK LE LN vI vK vE vN) (hm : Mod Nn wr w') : BagS w w' bb LI LK LE LN vI vK vE vN :=
  ⟨h.b.mod hm (fun f => f), own_mod h.i hm (fun _ _ f => f), own_mod h.k hm (fun _ _ f => f), own_mod h.e hm (fun _ _ f => f), own_mod h.n hm (fun _ _ f => f), h.m.nn_ hm, h.g⟩
set_option maxRecDepth 100000 in
set_option maxHeartbeats 3200000 in
theorem putI_any {w wr : World} {bb : Nat} {LI LK LE LN : List Row} {vI vK vE vN : Value} (h : BagS w wr bb LI LK LE LN vI vK vE vN) (hn : LI.length ≤ 100000) (r : Row) :
    Calls Tryz.prog 96 #[.pointer (some ⟨bb, 0, none⟩), r.v] wr fun e w' => e = .returned (.tuple #[]) ∧ ∃ v', BagS w w' bb (LI ++ [r]) LK LE LN v' vK vE vN ∧ ∀ g cs, Blk wr g 32 cs → Blk w' g 32 cs := by
  obtain ⟨rA, rn, rc⟩ := r
  have cc : wr.cell? ⟨bb, 2, none⟩ = some vI := h.b.cell 2
  have H := Lib.hid h
  obtain ⟨A0, c0, rfl, hnc, hAb⟩ := own_form h.i
  clear h hAb
  show Calls _ _ #[_, .slice rA rn rc] wr _
  go_enter Tryz.func96, Tryz.ntmps96
  go_wp2_with (first
    | (with_reducible change wpList _ _ _ (⟨some 11, _, _, _, _, _⟩ :: _) _ _
       go_must (refine wpList_append_two 75 _ _ rfl rfl bb 30 (.slice none 0 0) 1 24 Tryz.underlying75 info_slI rfl (by omega) (.slice A0 LI.length c0) LI.length _ rfl (own_mod H.out.i ((Mod.refl Nn _).alloc _) (fun _ _ f => f)) _ 1 1 [.slice rA rn rc] rfl (Rd.of_blk0 (Blk.new _ _ _) rfl).toC (by omega) (fun u hu => by rw [List.mem_singleton.1 hu]; rfl) (by omega) (by omega) (by have := H.out.b.lt; rw [World.size_alloc]; omega) ?_)
       intro v' w2 own2 two2
       have hb2 : Blk w2 bb 93 _ := (H.out.b.alloc (.cells #[Value.slice rA rn rc] 30)).mod two2.mod (blk_ne_own H.out.b H.out.i (by decide))
       have hs := hb2.set_ 2 v'
       have hv' : ∀ g, v'.ownBlock = some g → ¬ At bb g := fun g hg e => by
         have e : g = bb := e
         subst e
         exact blk_ne_own hb2 own2 (by decide) hg
       have hos := own_mod own2 (Mod.cellAt w2 bb 2 v') hv'
       have ms : Mod Nn w (w2.setCell ⟨bb, 2, none⟩ v') := ((H.out.m.alloc _).then_ two2.mod (fun g hg hvg => by have := own_ge H.out.i g hvg; have := H.out.g; omega)).new_ (Mod.cellAt w2 bb 2 v') H.out.g
       have hlen : (LI ++ [(⟨rA, rn, rc⟩ : Row)]).length = LI.length + 1 := by simp
       have hmap : (LI ++ [(⟨rA, rn, rc⟩ : Row)]).map Row.v = LI.map Row.v ++ [.slice rA rn rc] := by simp [Row.v]
       rw [← hlen, ← hmap] at hos
       have HE : Hid (BagS w (w2.setCell ⟨bb, 2, none⟩ v') bb (LI ++ [⟨rA, rn, rc⟩]) LK LE LN v' vK vE vN ∧ ∀ g cs, Blk wr g 32 cs → Blk (w2.setCell ⟨bb, 2, none⟩ v') g 32 cs) :=
         Lib.hid ⟨⟨hs, hos, (own_mod (own_mod (own_mod H.out.k ((Mod.refl Nn _).alloc (.cells #[Value.slice rA rn rc] 30)) (fun _ _ f => f)) two2.mod (fun g hg => own_ne (own_mod H.out.k ((Mod.refl Nn _).alloc (.cells #[Value.slice rA rn rc] 30)) (fun _ _ f => f)) (own_mod H.out.i ((Mod.refl Nn _).alloc (.cells #[Value.slice rA rn rc] 30)) (fun _ _ f => f)) (by decide) hg)) (Mod.cellAt w2 bb 2 v') (fun g hg e => by have e : g = bb := e; subst e; exact blk_ne_own H.out.b H.out.k (by decide) hg)), (own_mod (own_mod (own_mod H.out.e ((Mod.refl Nn _).alloc (.cells #[Value.slice rA rn rc] 30)) (fun _ _ f => f)) two2.mod (fun g hg => own_ne (own_mod H.out.e ((Mod.refl Nn _).alloc (.cells #[Value.slice rA rn rc] 30)) (fun _ _ f => f)) (own_mod H.out.i ((Mod.refl Nn _).alloc (.cells #[Value.slice rA rn rc] 30)) (fun _ _ f => f)) (by decide) hg)) (Mod.cellAt w2 bb 2 v') (fun g hg e => by have e : g = bb := e; subst e; exact blk_ne_own H.out.b H.out.e (by decide) hg)), (own_mod (own_mod (own_mod H.out.n ((Mod.refl Nn _).alloc (.cells #[Value.slice rA rn rc] 30)) (fun _ _ f => f)) two2.mod (fun g hg => own_ne (own_mod H.out.n ((Mod.refl Nn _).alloc (.cells #[Value.slice rA rn rc] 30)) (fun _ _ f => f)) (own_mod H.out.i ((Mod.refl Nn _).alloc (.cells #[Value.slice rA rn rc] 30)) (fun _ _ f => f)) (by decide) hg)) (Mod.cellAt w2 bb 2 v') (fun g hg e => by have e : g = bb := e; subst e; exact blk_ne_own H.out.b H.out.n (by decide) hg)), ms, H.out.g⟩, fun g cs hbg => ((hbg.alloc (.cells #[Value.slice rA rn rc] 30)).mod two2.mod (blk_ne_own hbg H.out.i (by decide))).mod (Mod.cellAt w2 bb 2 v') (fun e => Blk.ne_ hbg H.out.b (by decide) e)⟩
       have hf := hb2.frozen 2
       have cc : w2.cell? ⟨bb, 2, none⟩ = some (.slice A0 LI.length c0) := hb2.cell 2
       obtain ⟨A', c', rfl, -, -⟩ := own_form own2
       clear own2 two2 hb2 hs hos ms hv' hlen hmap))
  go_end0
  exact ⟨rfl, _, HE.out⟩
set_option maxRecDepth 100000 in
set_option maxHeartbeats 3200000 in
theorem putK_any {w wr : World} {bb : Nat} {LI LK LE LN : List Row} {vI vK vE vN : Value} (h : BagS w wr bb LI LK LE LN vI vK vE vN) (hn : LK.length ≤ 100000) (r : Row) :
    Calls Tryz.prog 95 #[.pointer (some ⟨bb, 0, none⟩), r.v] wr fun e w' => e = .returned (.tuple #[]) ∧ ∃ v', BagS w w' bb LI (LK ++ [r]) LE LN vI v' vE vN ∧ ∀ g cs, Blk wr g 32 cs → Blk w' g 32 cs := by
  obtain ⟨rA, rn, rc⟩ := r
  have cc : wr.cell? ⟨bb, 6, none⟩ = some vK := h.b.cell 6
  have H := Lib.hid h
  obtain ⟨A0, c0, rfl, hnc, hAb⟩ := own_form h.k
  clear h hAb
  show Calls _ _ #[_, .slice rA rn rc] wr _
  go_enter Tryz.func95, Tryz.ntmps95
  go_wp2_with (first
    | (with_reducible change wpList _ _ _ (⟨some 11, _, _, _, _, _⟩ :: _) _ _
       go_must (refine wpList_append_two 78 _ _ rfl rfl bb 29 (.slice none 0 0) 1 24 Tryz.underlying78 info_slK rfl (by omega) (.slice A0 LK.length c0) LK.length _ rfl (own_mod H.out.k ((Mod.refl Nn _).alloc _) (fun _ _ f => f)) _ 1 1 [.slice rA rn rc] rfl (Rd.of_blk0 (Blk.new _ _ _) rfl).toC (by omega) (fun u hu => by rw [List.mem_singleton.1 hu]; rfl) (by omega) (by omega) (by have := H.out.b.lt; rw [World.size_alloc]; omega) ?_)
       intro v' w2 own2 two2
       have hb2 : Blk w2 bb 93 _ := (H.out.b.alloc (.cells #[Value.slice rA rn rc] 29)).mod two2.mod (blk_ne_own H.out.b H.out.k (by decide))
       have hs := hb2.set_ 6 v'
       have hv' : ∀ g, v'.ownBlock = some g → ¬ At bb g := fun g hg e => by
         have e : g = bb := e
         subst e
         exact blk_ne_own hb2 own2 (by decide) hg
       have hos := own_mod own2 (Mod.cellAt w2 bb 6 v') hv'
       have ms : Mod Nn w (w2.setCell ⟨bb, 6, none⟩ v') := ((H.out.m.alloc _).then_ two2.mod (fun g hg hvg => by have := own_ge H.out.k g hvg; have := H.out.g; omega)).new_ (Mod.cellAt w2 bb 6 v') H.out.g
       have hlen : (LK ++ [(⟨rA, rn, rc⟩ : Row)]).length = LK.length + 1 := by simp
       have hmap : (LK ++ [(⟨rA, rn, rc⟩ : Row)]).map Row.v = LK.map Row.v ++ [.slice rA rn rc] := by simp [Row.v]
       rw [← hlen, ← hmap] at hos
       have HE : Hid (BagS w (w2.setCell ⟨bb, 6, none⟩ v') bb LI (LK ++ [⟨rA, rn, rc⟩]) LE LN vI v' vE vN ∧ ∀ g cs, Blk wr g 32 cs → Blk (w2.setCell ⟨bb, 6, none⟩ v') g 32 cs) :=
         Lib.hid ⟨⟨hs, (own_mod (own_mod (own_mod H.out.i ((Mod.refl Nn _).alloc (.cells #[Value.slice rA rn rc] 29)) (fun _ _ f => f)) two2.mod (fun g hg => own_ne (own_mod H.out.i ((Mod.refl Nn _).alloc (.cells #[Value.slice rA rn rc] 29)) (fun _ _ f => f)) (own_mod H.out.k ((Mod.refl Nn _).alloc (.cells #[Value.slice rA rn rc] 29)) (fun _ _ f => f)) (by decide) hg)) (Mod.cellAt w2 bb 6 v') (fun g hg e => by have e : g = bb := e; subst e; exact blk_ne_own H.out.b H.out.i (by decide) hg)), hos, (own_mod (own_mod (own_mod H.out.e ((Mod.refl Nn _).alloc (.cells #[Value.slice rA rn rc] 29)) (fun _ _ f => f)) two2.mod (fun g hg => own_ne (own_mod H.out.e ((Mod.refl Nn _).alloc (.cells #[Value.slice rA rn rc] 29)) (fun _ _ f => f)) (own_mod H.out.k ((Mod.refl Nn _).alloc (.cells #[Value.slice rA rn rc] 29)) (fun _ _ f => f)) (by decide) hg)) (Mod.cellAt w2 bb 6 v') (fun g hg e => by have e : g = bb := e; subst e; exact blk_ne_own H.out.b H.out.e (by decide) hg)), (own_mod (own_mod (own_mod H.out.n ((Mod.refl Nn _).alloc (.cells #[Value.slice rA rn rc] 29)) (fun _ _ f => f)) two2.mod (fun g hg => own_ne (own_mod H.out.n ((Mod.refl Nn _).alloc (.cells #[Value.slice rA rn rc] 29)) (fun _ _ f => f)) (own_mod H.out.k ((Mod.refl Nn _).alloc (.cells #[Value.slice rA rn rc] 29)) (fun _ _ f => f)) (by decide) hg)) (Mod.cellAt w2 bb 6 v') (fun g hg e => by have e : g = bb := e; subst e; exact blk_ne_own H.out.b H.out.n (by decide) hg)), ms, H.out.g⟩, fun g cs hbg => ((hbg.alloc (.cells #[Value.slice rA rn rc] 29)).mod two2.mod (blk_ne_own hbg H.out.k (by decide))).mod (Mod.cellAt w2 bb 6 v') (fun e => Blk.ne_ hbg H.out.b (by decide) e)⟩
       have hf := hb2.frozen 6
       have cc : w2.cell? ⟨bb, 6, none⟩ = some (.slice A0 LK.length c0) := hb2.cell 6
       obtain ⟨A', c', rfl, -, -⟩ := own_form own2
       clear own2 two2 hb2 hs hos ms hv' hlen hmap))
  go_end0
  exact ⟨rfl, _, HE.out⟩
set_option maxRecDepth 100000 in
set_option maxHeartbeats 3200000 in
theorem putE_any {w wr : World} {bb : Nat} {LI LK LE LN : List Row} {vI vK vE vN : Value} (h : BagS w wr bb LI LK LE LN vI vK vE vN) (hn : LE.length ≤ 100000) (r : Row) :
    Calls Tryz.prog 94 #[.pointer (some ⟨bb, 0, none⟩), r.v] wr fun e w' => e = .returned (.tuple #[]) ∧ ∃ v', BagS w w' bb LI LK (LE ++ [r]) LN vI vK v' vN ∧ ∀ g cs, Blk wr g 32 cs → Blk w' g 32 cs := by
  obtain ⟨rA, rn, rc⟩ := r
  have cc : wr.cell? ⟨bb, 11, none⟩ = some vE := h.b.cell 11
  have H := Lib.hid h
  obtain ⟨A0, c0, rfl, hnc, hAb⟩ := own_form h.e
  clear h hAb
  show Calls _ _ #[_, .slice rA rn rc] wr _
  go_enter Tryz.func94, Tryz.ntmps94
  go_wp2_with (first
    | (with_reducible change wpList _ _ _ (⟨some 11, _, _, _, _, _⟩ :: _) _ _
       go_must (refine wpList_append_two 83 _ _ rfl rfl bb 28 (.slice none 0 0) 1 24 Tryz.underlying83 info_slE rfl (by omega) (.slice A0 LE.length c0) LE.length _ rfl (own_mod H.out.e ((Mod.refl Nn _).alloc _) (fun _ _ f => f)) _ 1 1 [.slice rA rn rc] rfl (Rd.of_blk0 (Blk.new _ _ _) rfl).toC (by omega) (fun u hu => by rw [List.mem_singleton.1 hu]; rfl) (by omega) (by omega) (by have := H.out.b.lt; rw [World.size_alloc]; omega) ?_)
       intro v' w2 own2 two2
       have hb2 : Blk w2 bb 93 _ := (H.out.b.alloc (.cells #[Value.slice rA rn rc] 28)).mod two2.mod (blk_ne_own H.out.b H.out.e (by decide))
       have hs := hb2.set_ 11 v'
       have hv' : ∀ g, v'.ownBlock = some g → ¬ At bb g := fun g hg e => by
         have e : g = bb := e
         subst e
         exact blk_ne_own hb2 own2 (by decide) hg
       have hos := own_mod own2 (Mod.cellAt w2 bb 11 v') hv'
       have ms : Mod Nn w (w2.setCell ⟨bb, 11, none⟩ v') := ((H.out.m.alloc _).then_ two2.mod (fun g hg hvg => by have := own_ge H.out.e g hvg; have := H.out.g; omega)).new_ (Mod.cellAt w2 bb 11 v') H.out.g
       have hlen : (LE ++ [(⟨rA, rn, rc⟩ : Row)]).length = LE.length + 1 := by simp
       have hmap : (LE ++ [(⟨rA, rn, rc⟩ : Row)]).map Row.v = LE.map Row.v ++ [.slice rA rn rc] := by simp [Row.v]
       rw [← hlen, ← hmap] at hos
       have HE : Hid (BagS w (w2.setCell ⟨bb, 11, none⟩ v') bb LI LK (LE ++ [⟨rA, rn, rc⟩]) LN vI vK v' vN ∧ ∀ g cs, Blk wr g 32 cs → Blk (w2.setCell ⟨bb, 11, none⟩ v') g 32 cs) :=
         Lib.hid ⟨⟨hs, (own_mod (own_mod (own_mod H.out.i ((Mod.refl Nn _).alloc (.cells #[Value.slice rA rn rc] 28)) (fun _ _ f => f)) two2.mod (fun g hg => own_ne (own_mod H.out.i ((Mod.refl Nn _).alloc (.cells #[Value.slice rA rn rc] 28)) (fun _ _ f => f)) (own_mod H.out.e ((Mod.refl Nn _).alloc (.cells #[Value.slice rA rn rc] 28)) (fun _ _ f => f)) (by decide) hg)) (Mod.cellAt w2 bb 11 v') (fun g hg e => by have e : g = bb := e; subst e; exact blk_ne_own H.out.b H.out.i (by decide) hg)), (own_mod (own_mod (own_mod H.out.k ((Mod.refl Nn _).alloc (.cells #[Value.slice rA rn rc] 28)) (fun _ _ f => f)) two2.mod (fun g hg => own_ne (own_mod H.out.k ((Mod.refl Nn _).alloc (.cells #[Value.slice rA rn rc] 28)) (fun _ _ f => f)) (own_mod H.out.e ((Mod.refl Nn _).alloc (.cells #[Value.slice rA rn rc] 28)) (fun _ _ f => f)) (by decide) hg)) (Mod.cellAt w2 bb 11 v') (fun g hg e => by have e : g = bb := e; subst e; exact blk_ne_own H.out.b H.out.k (by decide) hg)), hos, (own_mod (own_mod (own_mod H.out.n ((Mod.refl Nn _).alloc (.cells #[Value.slice rA rn rc] 28)) (fun _ _ f => f)) two2.mod (fun g hg => own_ne (own_mod H.out.n ((Mod.refl Nn _).alloc (.cells #[Value.slice rA rn rc] 28)) (fun _ _ f => f)) (own_mod H.out.e ((Mod.refl Nn _).alloc (.cells #[Value.slice rA rn rc] 28)) (fun _ _ f => f)) (by decide) hg)) (Mod.cellAt w2 bb 11 v') (fun g hg e => by have e : g = bb := e; subst e; exact blk_ne_own H.out.b H.out.n (by decide) hg)), ms, H.out.g⟩, fun g cs hbg => ((hbg.alloc (.cells #[Value.slice rA rn rc] 28)).mod two2.mod (blk_ne_own hbg H.out.e (by decide))).mod (Mod.cellAt w2 bb 11 v') (fun e => Blk.ne_ hbg H.out.b (by decide) e)⟩
       have hf := hb2.frozen 11
       have cc : w2.cell? ⟨bb, 11, none⟩ = some (.slice A0 LE.length c0) := hb2.cell 11
       obtain ⟨A', c', rfl, -, -⟩ := own_form own2
       clear own2 two2 hb2 hs hos ms hv' hlen hmap))
  go_end0
  exact ⟨rfl, _, HE.out⟩
/-- a node as its three rows -/
structure NRow where
  lf : Bool
  e : Row
  k : Row
  c : Row
def NRow.cells (n : NRow) : List Value := [.bool n.lf, n.e.v, n.k.v, n.c.v]
set_option maxRecDepth 100000 in
set_option maxHeartbeats 3200000 in
theorem oneN_any {w wr : World} {bb : Nat} {LI LK LE LN : List Row} {vI vK vE vN : Value} (h : BagS w wr bb LI LK LE LN vI vK vE vN) (hi : LI.length ≤ 100000) (hk : LK.length ≤ 100000) (he : LE.length ≤ 100000) (x : NRow) :
    Calls Tryz.prog 66 #[.pointer (some ⟨bb, 0, none⟩), .agg x.cells.toArray] wr fun e w' => e = .returned (.tuple #[]) ∧ ∃ vI' vK' vE', BagS w w' bb (LI ++ [x.c]) (LK ++ [x.k]) (LE ++ [x.e]) LN vI' vK' vE' vN := by
  obtain ⟨lf, ⟨eA, en, ec⟩, ⟨kA, kn, kc⟩, ⟨cA, cn, cc⟩⟩ := x
  show Calls _ _ #[_, .agg #[.bool lf, .slice eA en ec, .slice kA kn kc, .slice cA cn cc]] wr _
  have m0 : Mod Nn wr (wr.alloc (.cells #[.bool lf, .slice eA en ec, .slice kA kn kc, .slice cA cn cc] 32)) := (Mod.refl Nn wr).alloc _
  have H := Lib.hid (And.intro (h.nn m0) (Blk.new wr 32 #[.bool lf, .slice eA en ec, .slice kA kn kc, .slice cA cn cc]))
  clear h m0
  go_enter Tryz.func66, Tryz.ntmps66
  go_wp2_with fail
  refine (putE_any H.out.1 he ⟨eA, en, ec⟩).mono ?_
  rintro r w1 ⟨rfl, v1, h1, f1⟩
  have H1 := Lib.hid (And.intro h1 (f1 _ _ H.out.2))
  have C1 : w1.cell? ⟨wr.heap.size, 2, none⟩ = some (.slice kA kn kc) := H1.out.2.cell 2
  clear h1 f1
  go_wp2_with fail
  refine (putK_any H1.out.1 hk ⟨kA, kn, kc⟩).mono ?_
  rintro r w2 ⟨rfl, v2, h2, f2⟩
  have H2 := Lib.hid (And.intro h2 (f2 _ _ H1.out.2))
  have C2 : w2.cell? ⟨wr.heap.size, 3, none⟩ = some (.slice cA cn cc) := H2.out.2.cell 3
  clear h2 f2 C1
  go_wp2_with fail
  refine (putI_any H2.out.1 hi ⟨cA, cn, cc⟩).mono ?_
  rintro r w3 ⟨rfl, v3, h3, f3⟩
  have H3 := Lib.hid h3
  clear h3 f3 C2
  go_wp2
  go_end0
  exact ⟨rfl, _, _, _, H3.out⟩
theorem flat_cell {ns : List NRow} {i : Nat} {x : NRow} (h : ns[i]? = some x) : ∀ j v, x.cells[j]? = some v → (flat NRow.cells ns)[i * 4 + j]? = some v := fun j v hv => by
  have hj : j < 4 := (List.getElem?_eq_some_iff.1 hv).1
  rw [flat_at (s := 4) (fun x => rfl) ns i j hj, h]; exact hv
set_option maxRecDepth 100000 in
set_option maxHeartbeats 3200000 in
theorem putN_any {w wr : World} {bb : Nat} {LI LK LE LN : List Row} {vI vK vE vN : Value} (h : BagS w wr bb LI LK LE LN vI vK vE vN) (hn : LN.length ≤ 1000) (hi : LI.length ≤ 10000) (hk : LK.length ≤ 10000) (he : LE.length ≤ 10000) (r : Row) (ns : List NRow) (hr : RdC w r.A r.n 4 (flat NRow.cells ns)) (hl : ns.length = r.n) (hrn : r.n ≤ 10000) :
    Calls Tryz.prog 47 #[.pointer (some ⟨bb, 0, none⟩), r.v] wr fun e w' => e = .returned (.tuple #[]) ∧ ∃ vI' vK' vE' vN', BagS w w' bb (LI ++ ns.map (·.c)) (LK ++ ns.map (·.k)) (LE ++ ns.map (·.e)) (LN ++ [r]) vI' vK' vE' vN' := by
  obtain ⟨rA, rn, rc⟩ := r
  have cc : wr.cell? ⟨bb, 12, none⟩ = some vN := h.b.cell 12
  have H := Lib.hid h
  obtain ⟨A0, c0, rfl, hnc, hAb⟩ := own_form h.n
  clear h hAb
  show Calls _ _ #[_, .slice rA rn rc] wr _
  have hl : ns.length = rn := hl
  have hrn : rn ≤ 10000 := hrn
  have HR := Lib.hid (And.intro (show RdC w rA rn 4 (flat NRow.cells ns) from hr) hl)
  clear hr hl
  go_enter Tryz.func47, Tryz.ntmps47
  go_wp2_with (first
    | (with_reducible change wpList _ _ _ (⟨some 12, _, _, _, _, _⟩ :: _) _ _
       go_must (refine wpList_append_two 57 _ _ rfl rfl bb 22 (.slice none 0 0) 1 24 Tryz.underlying57 info_slN rfl (by omega) (.slice A0 LN.length c0) LN.length _ rfl (own_mod H.out.n ((Mod.refl Nn _).alloc _) (fun _ _ f => f)) _ 1 1 [.slice rA rn rc] rfl (Rd.of_blk0 (Blk.new _ _ _) rfl).toC (by omega) (fun u hu => by rw [List.mem_singleton.1 hu]; rfl) (by omega) (by omega) (by have := H.out.b.lt; rw [World.size_alloc]; omega) ?_)
       intro v' w2 own2 two2
       have hb2 : Blk w2 bb 93 _ := (H.out.b.alloc (.cells #[Value.slice rA rn rc] 22)).mod two2.mod (blk_ne_own H.out.b H.out.n (by decide))
       have hs := hb2.set_ 12 v'
       have hv' : ∀ g, v'.ownBlock = some g → ¬ At bb g := fun g hg e => by
         have e : g = bb := e
         subst e
         exact blk_ne_own hb2 own2 (by decide) hg
       have hos := own_mod own2 (Mod.cellAt w2 bb 12 v') hv'
       have ms : Mod Nn w (w2.setCell ⟨bb, 12, none⟩ v') := ((H.out.m.alloc _).then_ two2.mod (fun g hg hvg => by have := own_ge H.out.n g hvg; have := H.out.g; omega)).new_ (Mod.cellAt w2 bb 12 v') H.out.g
       have hlen : (LN ++ [(⟨rA, rn, rc⟩ : Row)]).length = LN.length + 1 := by simp
       have hmap : (LN ++ [(⟨rA, rn, rc⟩ : Row)]).map Row.v = LN.map Row.v ++ [.slice rA rn rc] := by simp [Row.v]
       rw [← hlen, ← hmap] at hos
       have HE : Hid (BagS w (w2.setCell ⟨bb, 12, none⟩ v') bb LI LK LE (LN ++ [⟨rA, rn, rc⟩]) vI vK vE v' ∧ ∀ g cs, Blk wr g 32 cs → Blk (w2.setCell ⟨bb, 12, none⟩ v') g 32 cs) :=
         Lib.hid ⟨⟨hs, (own_mod (own_mod (own_mod H.out.i ((Mod.refl Nn _).alloc (.cells #[Value.slice rA rn rc] 22)) (fun _ _ f => f)) two2.mod (fun g hg => own_ne (own_mod H.out.i ((Mod.refl Nn _).alloc (.cells #[Value.slice rA rn rc] 22)) (fun _ _ f => f)) (own_mod H.out.n ((Mod.refl Nn _).alloc (.cells #[Value.slice rA rn rc] 22)) (fun _ _ f => f)) (by decide) hg)) (Mod.cellAt w2 bb 12 v') (fun g hg e => by have e : g = bb := e; subst e; exact blk_ne_own H.out.b H.out.i (by decide) hg)), (own_mod (own_mod (own_mod H.out.k ((Mod.refl Nn _).alloc (.cells #[Value.slice rA rn rc] 22)) (fun _ _ f => f)) two2.mod (fun g hg => own_ne (own_mod H.out.k ((Mod.refl Nn _).alloc (.cells #[Value.slice rA rn rc] 22)) (fun _ _ f => f)) (own_mod H.out.n ((Mod.refl Nn _).alloc (.cells #[Value.slice rA rn rc] 22)) (fun _ _ f => f)) (by decide) hg)) (Mod.cellAt w2 bb 12 v') (fun g hg e => by have e : g = bb := e; subst e; exact blk_ne_own H.out.b H.out.k (by decide) hg)), (own_mod (own_mod (own_mod H.out.e ((Mod.refl Nn _).alloc (.cells #[Value.slice rA rn rc] 22)) (fun _ _ f => f)) two2.mod (fun g hg => own_ne (own_mod H.out.e ((Mod.refl Nn _).alloc (.cells #[Value.slice rA rn rc] 22)) (fun _ _ f => f)) (own_mod H.out.n ((Mod.refl Nn _).alloc (.cells #[Value.slice rA rn rc] 22)) (fun _ _ f => f)) (by decide) hg)) (Mod.cellAt w2 bb 12 v') (fun g hg e => by have e : g = bb := e; subst e; exact blk_ne_own H.out.b H.out.e (by decide) hg)), hos, ms, H.out.g⟩, fun g cs hbg => ((hbg.alloc (.cells #[Value.slice rA rn rc] 22)).mod two2.mod (blk_ne_own hbg H.out.n (by decide))).mod (Mod.cellAt w2 bb 12 v') (fun e => Blk.ne_ hbg H.out.b (by decide) e)⟩
       have hf := hb2.frozen 12
       have cc : w2.cell? ⟨bb, 12, none⟩ = some (.slice A0 LN.length c0) := hb2.cell 12
       obtain ⟨A', c', rfl, -, -⟩ := own_form own2
       clear own2 two2 hb2 hs hos ms hv' hlen hmap))
  clear cc hf H hnc
  go_loopw [4] (fun i wx => ∃ (k : Nat) (vI vK vE : Value), k ≤ rn ∧ i = .int .i64 k ∧ Hid (BagS w wx bb (LI ++ (ns.take k).map (·.c)) (LK ++ (ns.take k).map (·.k)) (LE ++ (ns.take k).map (·.e)) (LN ++ [⟨rA, rn, rc⟩]) vI vK vE (.slice A' (LN.length + 1) c'))) (fun i _ => rn - (intOf i).toNat)
  case atStart => exact ⟨0, vI, vK, vE, Nat.zero_le _, rfl, Lib.hid (by simpa using HE.out.1)⟩
  case round =>
    clear HE
    obtain ⟨k, uI, uK, uE, hk', rfl, HB⟩ := hrel
    obtain ⟨wo, rfl⟩ : ∃ wo : World, wo = wr := ⟨_, rfl⟩
    by_cases hlt : k < rn
    · have hlt' : (k : Int) < rn := by omega
      obtain ⟨x, hx⟩ : ∃ x, ns[k]? = some x := ⟨_, List.getElem?_eq_getElem (by rw [HR.out.2]; exact hlt)⟩
      obtain ⟨g, off, rfl, hc⟩ := HR.out.1.2 (by omega)
      have hgl : g < w.heap.size := by
        have h0 := flat_cell hx 0 (.bool x.lf) rfl
        exact World.block_lt_of_cell? w _ (hc _ _ h0)
      have hcx : ∀ j v, x.cells[j]? = some v → wo.cell? ⟨g, off + k * 4 + j, none⟩ = some v := fun j v hv => by
        have h1 := hc _ _ (flat_cell hx j v hv)
        rw [← Nat.add_assoc] at h1
        exact (HB.out.m.cell (p := ⟨g, off + k * 4 + j, none⟩) hgl (fun f => f)).trans h1
      have ht : ∀ {β : Type} (f : NRow → β) (L : List β), L ++ (ns.take k).map f ++ [f x] = L ++ (ns.take (k + 1)).map f := fun f L => by
        rw [List.take_add_one, hx, List.map_append, List.append_assoc]; rfl
      have HX := Lib.hid (And.intro hcx (And.intro (ht (·.c) LI) (And.intro (ht (·.k) LK) (ht (·.e) LE))))
      clear hc hgl hcx ht hx
      go_wp2_with (first
        | (with_reducible change wpList _ _ _ (⟨some 25, Op.load _ _, _, _, _, _⟩ :: _) _ _
           go_must (refine wpList_val rfl (exec_load_cells (P := Tryz.prog) 32 _ rfl (cs := x.cells) rfl HX.out.1 Tryz.underlying32 rfl size_node) ?_)))
      have hlk : (ns.take k).length ≤ 10000 := by rw [List.length_take]; omega
      refine (oneN_any HB.out (by rw [List.length_append, List.length_map]; omega) (by rw [List.length_append, List.length_map]; omega) (by rw [List.length_append, List.length_map]; omega) x).mono ?_
      rintro r w2 ⟨rfl, v1, v2, v3, h2⟩
      rw [HX.out.2.1, HX.out.2.2.1, HX.out.2.2.2] at h2
      have H2 := Lib.hid h2
      clear h2
      go_wp2
      exact ⟨⟨k + 1, v1, v2, v3, by omega, by go_num, H2⟩, by simp [intOf]; omega⟩
    · have hlt' : ¬ (k : Int) < rn := by omega
      have hkn : k = rn := by omega
      subst hkn
      have h9 := HB.out
      rw [List.take_of_length_le (by rw [HR.out.2]; exact Nat.le_refl _)] at h9
      have H9 := Lib.hid h9
      clear h9 HB
      go_wp2
      go_end0
      exact ⟨rfl, _, _, _, _, H9.out⟩
theorem rows_apart {w : World} {e e' : TypeId} {s s' : Nat} {L L' : List Row} {Y Y' : Nat → List Value} (h : RowsY w e s L Y) (h' : RowsY w e' s' L' Y') (hne : e ≠ e') : ∀ g, Bks L g → ¬ Bks L' g := fun g ⟨j, r, hr, hg⟩ ⟨j', r', hr', hg'⟩ =>
  own_ne (h j r hr) (h' j' r' hr') hne hg hg'
theorem blk_not_rows {w : World} {e t : TypeId} {s g : Nat} {cs : Array Value} {L : List Row} {Y : Nat → List Value} (hb : Blk w g t cs) (h : RowsY w e s L Y) (hne : t ≠ e) : ¬ Bks L g := fun ⟨j, r, hr, hg⟩ => blk_ne_own hb (h j r hr) hne hg
theorem of_not_rows {w : World} {e t : TypeId} {s b n c : Nat} {A : Option Addr} {xs : List Value} {L : List Row} {Y : Nat → List Value} (ho : w.ownsRow b t 1 (.slice A n c) n xs) (h : RowsY w e s L Y) (hne : t ≠ e) : ∀ g, Of A g → ¬ Bks L g := fun g hg ⟨j, r, hr, hg'⟩ => own_ne ho (h j r hr) hne (of_own hg) hg'
set_option maxRecDepth 100000 in
set_option maxHeartbeats 6400000 in
theorem bagApartN_any {w wr : World} {bb : Nat} {LI LK LE LN : List Row} {vI vK vE vN : Value} {YI YK YE YN : Nat → List Value} (h : BagS w wr bb LI LK LE LN vI vK vE vN)
    (rI : RowsY wr 3 1 LI YI) (rK : RowsY wr 40 40 LK YK) (rE : RowsY wr 43 80 LE YE) (rN : RowsY wr 32 4 LN YN) (aI : AptR LI) (aK : AptR LK) (aE : AptR LE) (aN : AptR LN)
    (nI : LI.length ≤ 400) (nK : LK.length ≤ 400) (nE : LE.length ≤ 400) (nN : LN.length ≤ 400) (sI : ∀ (j : Nat) (r : Row), LI[j]? = some r → r.n ≤ 1099511627776) (sK : ∀ (j : Nat) (r : Row), LK[j]? = some r → r.n ≤ 1099511627776) (sE : ∀ (j : Nat) (r : Row), LE[j]? = some r → r.n ≤ 1099511627776) (sN : ∀ (j : Nat) (r : Row), LN[j]? = some r → r.n ≤ 1099511627776) :
    Calls Tryz.prog 48 #[.pointer (some ⟨bb, 0, none⟩)] wr fun e w' => e = .returned (.bool true) ∧ Mod (fun g => Bks LI g ∨ Bks LK g ∨ Bks LE g ∨ Bks LN g) wr w' := by
  obtain ⟨AI, cI, rfl, -, -⟩ := own_form h.i
  obtain ⟨AK, cK, rfl, -, -⟩ := own_form h.k
  obtain ⟨AE, cE, rfl, -, -⟩ := own_form h.e
  obtain ⟨AN, cN, rfl, -, -⟩ := own_form h.n
  have H := Lib.hid h
  have HR := Lib.hid (And.intro rI (And.intro rK (And.intro rE rN)))
  have HA := Lib.hid (And.intro aI (And.intro aK (And.intro aE aN)))
  have HS := Lib.hid (And.intro sI (And.intro sK (And.intro sE sN)))
  have hbI := blk_not_rows h.b rI (by decide); have hbK := blk_not_rows h.b rK (by decide); have hbE := blk_not_rows h.b rE (by decide); have hbN := blk_not_rows h.b rN (by decide)
  have HB := Lib.hid (And.intro hbI (And.intro hbK (And.intro hbE hbN)))
  have k0 : wr.cell? ⟨bb, 0, none⟩ = some (.slice none 0 0) := h.b.cell 0
  have M0 : Mod Nn wr wr := Mod.refl _ _
  clear h rI rK rE rN aI aK aE aN sI sK sE sN hbI hbK hbE hbN
  go_enter Tryz.func48, Tryz.ntmps48
  go_wp2_with fail
  refine (flatLimbs_nil _).mono ?_
  rintro r w1 ⟨rfl, m1⟩
  have M1 := M0.nn_ m1
  have k1 : w1.cell? ⟨bb, 1, none⟩ = some (.slice none 0 0) := (H.out.b.mod M1 (fun f => f)).cell 1
  clear m1 M0 k0
  go_wp2_with fail
  refine (flatWords_nil _).mono ?_
  rintro r w2 ⟨rfl, m2⟩
  have M2 := M1.nn_ m2
  have k2 : w2.cell? ⟨bb, 2, none⟩ = some (.slice AI LI.length cI) := (H.out.b.mod M2 (fun f => f)).cell 2
  clear m2 M1 k1
  go_wp2_with fail
  refine (flatI_any ((Rd.of_own H.out.i).mod M2 (fun _ _ f => f)) (HR.out.1.mod M2 (fun _ _ f => f)) HA.out.1 (of_not_rows H.out.i HR.out.1 (by decide)) nI HS.out.1).mono ?_
  rintro r w3 ⟨rfl, m3⟩
  have M3 : Mod (fun g => Bks LI g) wr w3 := M2.nn.trans (m3.mono (fun g _ hg => hg))
  have k3 : w3.cell? ⟨bb, 3, none⟩ = some (.slice none 0 0) := (H.out.b.mod M3 HB.out.1).cell 3
  clear m3 M2 k2
  go_wp2_with fail
  refine (flatLongs_nil _).mono ?_
  rintro r w4 ⟨rfl, m4⟩
  have M4 := M3.nn_ m4
  have k4 : w4.cell? ⟨bb, 4, none⟩ = some (.slice none 0 0) := (H.out.b.mod M4 HB.out.1).cell 4
  clear m4 M3 k3
  go_wp2_with fail
  refine (flatTexts_nil _).mono ?_
  rintro r w5 ⟨rfl, m5⟩
  have M5 := M4.nn_ m5
  have k5 : w5.cell? ⟨bb, 5, none⟩ = some (.slice none 0 0) := (H.out.b.mod M5 HB.out.1).cell 5
  clear m5 M4 k4
  go_wp2_with fail
  refine (flatBytes_nil _).mono ?_
  rintro r w6 ⟨rfl, m6⟩
  have M6 := M5.nn_ m6
  have k6 : w6.cell? ⟨bb, 6, none⟩ = some (.slice AK LK.length cK) := (H.out.b.mod M6 HB.out.1).cell 6
  clear m6 M5 k5
  go_wp2_with fail
  refine (flatK_any ((Rd.of_own H.out.k).mod M6 (fun g hg hs => of_not_rows H.out.k HR.out.1 (by decide) g hg hs)) (HR.out.2.1.mod M6 (fun g hg hs => rows_apart HR.out.2.1 HR.out.1 (by decide) g hg hs)) HA.out.2.1 (of_not_rows H.out.k HR.out.2.1 (by decide)) nK HS.out.2.1).mono ?_
  rintro r w7 ⟨rfl, m7⟩
  have M7 : Mod (fun g => Bks LI g ∨ Bks LK g) wr w7 := (M6.mono (fun g _ hg => .inl hg)).trans (m7.mono (fun g _ hg => .inr hg))
  have k7 : w7.cell? ⟨bb, 7, none⟩ = some (.slice none 0 0) := (H.out.b.mod M7 (fun hs => by rcases hs with hs | hs <;> first | exact HB.out.1 hs | exact HB.out.2.1 hs)).cell 7
  clear m7 M6 k6
  go_wp2_with fail
  refine (flatPieces_nil _).mono ?_
  rintro r w8 ⟨rfl, m8⟩
  have M8 := M7.nn_ m8
  have k8 : w8.cell? ⟨bb, 8, none⟩ = some (.slice none 0 0) := (H.out.b.mod M8 (fun hs => by rcases hs with hs | hs <;> first | exact HB.out.1 hs | exact HB.out.2.1 hs)).cell 8
  clear m8 M7 k7
  go_wp2_with fail
  refine (flatFates_nil _).mono ?_
  rintro r w9 ⟨rfl, m9⟩
  have M9 := M8.nn_ m9
  have k9 : w9.cell? ⟨bb, 9, none⟩ = some (.slice none 0 0) := (H.out.b.mod M9 (fun hs => by rcases hs with hs | hs <;> first | exact HB.out.1 hs | exact HB.out.2.1 hs)).cell 9
  clear m9 M8 k8
  go_wp2_with fail
  refine (flatFrames_nil _).mono ?_
  rintro r w10 ⟨rfl, m10⟩
  have M10 := M9.nn_ m10
  have k10 : w10.cell? ⟨bb, 10, none⟩ = some (.slice none 0 0) := (H.out.b.mod M10 (fun hs => by rcases hs with hs | hs <;> first | exact HB.out.1 hs | exact HB.out.2.1 hs)).cell 10
  clear m10 M9 k9
  go_wp2_with fail
  refine (flatPlaces_nil _).mono ?_
  rintro r w11 ⟨rfl, m11⟩
  have M11 := M10.nn_ m11
  have k11 : w11.cell? ⟨bb, 11, none⟩ = some (.slice AE LE.length cE) := (H.out.b.mod M11 (fun hs => by rcases hs with hs | hs <;> first | exact HB.out.1 hs | exact HB.out.2.1 hs)).cell 11
  clear m11 M10 k10
  go_wp2_with fail
  refine (flatE_any ((Rd.of_own H.out.e).mod M11 (fun g hg hs => by rcases hs with hs | hs <;> first | exact of_not_rows H.out.e HR.out.1 (by decide) g hg hs | exact of_not_rows H.out.e HR.out.2.1 (by decide) g hg hs)) (HR.out.2.2.1.mod M11 (fun g hg hs => by rcases hs with hs | hs <;> first | exact rows_apart HR.out.2.2.1 HR.out.1 (by decide) g hg hs | exact rows_apart HR.out.2.2.1 HR.out.2.1 (by decide) g hg hs)) HA.out.2.2.1 (of_not_rows H.out.e HR.out.2.2.1 (by decide)) nE HS.out.2.2.1).mono ?_
  rintro r w12 ⟨rfl, m12⟩
  have M12 : Mod (fun g => Bks LI g ∨ Bks LK g ∨ Bks LE g) wr w12 := (M11.mono (fun g _ hg => hg.elim .inl (fun h => .inr (.inl h)))).trans (m12.mono (fun g _ hg => .inr (.inr hg)))
  have k12 : w12.cell? ⟨bb, 12, none⟩ = some (.slice AN LN.length cN) := (H.out.b.mod M12 (fun hs => by rcases hs with hs | hs | hs <;> first | exact HB.out.1 hs | exact HB.out.2.1 hs | exact HB.out.2.2.1 hs)).cell 12
  clear m12 M11 k11
  go_wp2_with fail
  refine (flatN_any ((Rd.of_own H.out.n).mod M12 (fun g hg hs => by rcases hs with hs | hs | hs <;> first | exact of_not_rows H.out.n HR.out.1 (by decide) g hg hs | exact of_not_rows H.out.n HR.out.2.1 (by decide) g hg hs | exact of_not_rows H.out.n HR.out.2.2.1 (by decide) g hg hs)) (HR.out.2.2.2.mod M12 (fun g hg hs => by rcases hs with hs | hs | hs <;> first | exact rows_apart HR.out.2.2.2 HR.out.1 (by decide) g hg hs | exact rows_apart HR.out.2.2.2 HR.out.2.1 (by decide) g hg hs | exact rows_apart HR.out.2.2.2 HR.out.2.2.1 (by decide) g hg hs)) HA.out.2.2.2 (of_not_rows H.out.n HR.out.2.2.2 (by decide)) nN HS.out.2.2.2).mono ?_
  rintro r w13 ⟨rfl, m13⟩
  have M13 : Mod (fun g => Bks LI g ∨ Bks LK g ∨ Bks LE g ∨ Bks LN g) wr w13 := (M12.mono (fun g _ hg => hg.elim .inl (fun h => h.elim (fun h => .inr (.inl h)) (fun h => .inr (.inr (.inl h)))))).trans (m13.mono (fun g _ hg => .inr (.inr (.inr hg))))
  have k13 : w13.cell? ⟨bb, 13, none⟩ = some (.slice none 0 0) := (H.out.b.mod M13 (fun hs => by rcases hs with hs | hs | hs | hs <;> first | exact HB.out.1 hs | exact HB.out.2.1 hs | exact HB.out.2.2.1 hs | exact HB.out.2.2.2 hs)).cell 13
  clear m13 M12 k12
  go_wp2_with fail
  refine (flatItems_nil _).mono ?_
  rintro r w14 ⟨rfl, m14⟩
  have M14 := M13.nn_ m14
  have k14 : w14.cell? ⟨bb, 14, none⟩ = some (.slice none 0 0) := (H.out.b.mod M14 (fun hs => by rcases hs with hs | hs | hs | hs <;> first | exact HB.out.1 hs | exact HB.out.2.1 hs | exact HB.out.2.2.1 hs | exact HB.out.2.2.2 hs)).cell 14
  clear m14 M13 k13
  go_wp2_with fail
  refine (flatCounts_nil _).mono ?_
  rintro r w15 ⟨rfl, m15⟩
  have M15 := M14.nn_ m15
  have k15 : w15.cell? ⟨bb, 15, none⟩ = some (.slice none 0 0) := (H.out.b.mod M15 (fun hs => by rcases hs with hs | hs | hs | hs <;> first | exact HB.out.1 hs | exact HB.out.2.1 hs | exact HB.out.2.2.1 hs | exact HB.out.2.2.2 hs)).cell 15
  clear m15 M14 k14
  go_wp2_with fail
  refine (flatFreshes_nil _).mono ?_
  rintro r w16 ⟨rfl, m16⟩
  have M16 := M15.nn_ m16
  have k16 : w16.cell? ⟨bb, 16, none⟩ = some (.slice none 0 0) := (H.out.b.mod M16 (fun hs => by rcases hs with hs | hs | hs | hs <;> first | exact HB.out.1 hs | exact HB.out.2.1 hs | exact HB.out.2.2.1 hs | exact HB.out.2.2.2 hs)).cell 16
  clear m16 M15 k15
  go_wp2_with fail
  refine (flatPuts_nil _).mono ?_
  rintro r w17 ⟨rfl, m17⟩
  have M17 := M16.nn_ m17
  have k17 : w17.cell? ⟨bb, 17, none⟩ = some (.slice none 0 0) := (H.out.b.mod M17 (fun hs => by rcases hs with hs | hs | hs | hs <;> first | exact HB.out.1 hs | exact HB.out.2.1 hs | exact HB.out.2.2.1 hs | exact HB.out.2.2.2 hs)).cell 17
  clear m17 M16 k16
  go_wp2_with fail
  refine (flatOps_nil _).mono ?_
  rintro r w18 ⟨rfl, m18⟩
  have M18 := M17.nn_ m18
  have k18 : w18.cell? ⟨bb, 18, none⟩ = some (.slice none 0 0) := (H.out.b.mod M18 (fun hs => by rcases hs with hs | hs | hs | hs <;> first | exact HB.out.1 hs | exact HB.out.2.1 hs | exact HB.out.2.2.1 hs | exact HB.out.2.2.2 hs)).cell 18
  clear m18 M17 k17
  go_wp2_with fail
  refine (flatSteps_nil _).mono ?_
  rintro r w19 ⟨rfl, m19⟩
  have M19 := M18.nn_ m19
  have k19 : w19.cell? ⟨bb, 19, none⟩ = some (.slice none 0 0) := (H.out.b.mod M19 (fun hs => by rcases hs with hs | hs | hs | hs <;> first | exact HB.out.1 hs | exact HB.out.2.1 hs | exact HB.out.2.2.1 hs | exact HB.out.2.2.2 hs)).cell 19
  clear m19 M18 k18
  go_wp2_with fail
  refine (flatStats_nil _).mono ?_
  rintro r w20 ⟨rfl, m20⟩
  have M20 := M19.nn_ m20
  have k20 : w20.cell? ⟨bb, 20, none⟩ = some (.slice none 0 0) := (H.out.b.mod M20 (fun hs => by rcases hs with hs | hs | hs | hs <;> first | exact HB.out.1 hs | exact HB.out.2.1 hs | exact HB.out.2.2.1 hs | exact HB.out.2.2.2 hs)).cell 20
  clear m20 M19 k19
  go_wp2_with fail
  refine (flatTales_nil _).mono ?_
  rintro r w21 ⟨rfl, m21⟩
  have M21 := M20.nn_ m21
  clear m21 M20 k20
  go_wp2
  go_ret
  exact ⟨rfl, M21.mono (fun g _ hg => hg)⟩
/-- the nodes of the first k lists -/
def nsUp (NS : Nat → List NRow) (k : Nat) : List NRow := (List.range k).flatMap NS
theorem nsUp_succ (NS : Nat → List NRow) (k : Nat) : nsUp NS (k + 1) = nsUp NS k ++ NS k := by unfold nsUp; rw [List.range_succ, List.flatMap_append]; simp
set_option maxRecDepth 100000 in
set_option maxHeartbeats 6400000 in
theorem apartN_any {w : World} {A0 : Option Addr} {m c0 : Nat} {L : List Row} {NS : Nat → List NRow} {YI YK YE : Nat → List Value} (h0 : Rd w A0 m (L.map Row.v))
    (rN : RowsY w 32 4 L (fun j => flat NRow.cells (NS j))) (aN : AptR L) (rI : RowsY w 3 1 ((nsUp NS m).map (·.c)) YI) (rK : RowsY w 40 40 ((nsUp NS m).map (·.k)) YK) (rE : RowsY w 43 80 ((nsUp NS m).map (·.e)) YE)
    (aI : AptR ((nsUp NS m).map (·.c))) (aK : AptR ((nsUp NS m).map (·.k))) (aE : AptR ((nsUp NS m).map (·.e))) (hm : m ≤ 400) (hall : ∀ k, k ≤ m → (nsUp NS k).length ≤ 400)
    (sN : ∀ (j : Nat) (r : Row), L[j]? = some r → (NS j).length = r.n ∧ r.n ≤ 10000) (sI : ∀ (j : Nat) (r : Row), ((nsUp NS m).map (·.c))[j]? = some r → r.n ≤ 1099511627776) (sK : ∀ (j : Nat) (r : Row), ((nsUp NS m).map (·.k))[j]? = some r → r.n ≤ 1099511627776) (sE : ∀ (j : Nat) (r : Row), ((nsUp NS m).map (·.e))[j]? = some r → r.n ≤ 1099511627776) :
    Calls Tryz.prog 26 #[.slice A0 m c0] w fun e w' => e = .returned (.bool true) ∧ Mod (fun g => Bks ((nsUp NS m).map (·.c)) g ∨ Bks ((nsUp NS m).map (·.k)) g ∨ Bks ((nsUp NS m).map (·.e)) g ∨ Bks L g) w w' := by
  have hlen : L.length = m := by simpa using h0.1
  have HH := Lib.hid (And.intro h0 (And.intro rN (And.intro aN (And.intro hlen sN))))
  have HI := Lib.hid (And.intro rI (And.intro aI sI)); have HK := Lib.hid (And.intro rK (And.intro aK sK)); have HE := Lib.hid (And.intro rE (And.intro aE sE))
  clear h0 rN aN hlen sN rI aI sI rK aK sK rE aE sE
  go_enter Tryz.func26, Tryz.ntmps26
  go_wp2
  have B0 : Hid (BagS w (w.alloc (.cells (bagN (.slice none 0 0) (.slice none 0 0) (.slice none 0 0) (.slice none 0 0)) 93)) w.heap.size [] [] [] [] (.slice none 0 0) (.slice none 0 0) (.slice none 0 0) (.slice none 0 0)) :=
    Lib.hid ⟨Blk.new _ _ _, own_nil _ _ _ _, own_nil _ _ _ _, own_nil _ _ _ _, own_nil _ _ _ _, (Mod.refl Nn w).alloc _, Nat.le_refl _⟩
  unfold bagN at B0
  generalize hw1 : w.alloc (Obj.cells #[.slice none 0 0, .slice none 0 0, .slice none 0 0, .slice none 0 0, .slice none 0 0, .slice none 0 0, .slice none 0 0, .slice none 0 0, .slice none 0 0, .slice none 0 0, .slice none 0 0, .slice none 0 0, .slice none 0 0, .slice none 0 0, .slice none 0 0, .slice none 0 0, .slice none 0 0, .slice none 0 0, .slice none 0 0, .slice none 0 0, .slice none 0 0] 93) = w1 at *
  clear hw1
  obtain ⟨bb, hbb⟩ : ∃ bb, w.heap.size = bb := ⟨_, rfl⟩
  rw [hbb] at B0 ⊢
  have HB := Lib.hid hbb; clear hbb
  go_loopw [4] (fun i wr => ∃ (k : Nat) (vI vK vE vN : Value), k ≤ m ∧ i = .int .i64 k ∧ Hid (BagS w wr bb ((nsUp NS k).map (·.c)) ((nsUp NS k).map (·.k)) ((nsUp NS k).map (·.e)) (L.take k) vI vK vE vN)) (fun i _ => m - (intOf i).toNat)
  case atStart => exact ⟨0, _, _, _, _, Nat.zero_le _, rfl, B0⟩
  case round =>
    clear B0
    obtain ⟨k, vI, vK, vE, vN, hk, rfl, HG⟩ := hrel
    obtain ⟨wo, rfl⟩ : ∃ wo : World, wo = wr := ⟨_, rfl⟩
    by_cases hlt : k < m
    · have hlt' : (k : Int) < m := by omega
      obtain ⟨g0, off, r, rfl, hr, hc0⟩ := rowv_at (HH.out.1.mod HG.out.m (fun _ _ f => f)) hlt
      have hro := HH.out.2.1 k r hr
      have hsz := HH.out.2.2.2.2 k r hr
      have hall' := hall k (by omega)
      have hput := putN_any HG.out (by rw [List.length_take]; omega) (by rw [List.length_map]; omega) (by rw [List.length_map]; omega) (by rw [List.length_map]; omega) r (NS k) (own_rdC hro) hsz.1 hsz.2
      have HT := Lib.hid (show L.take k ++ [r] = L.take (k + 1) by rw [List.take_add_one, hr]; rfl)
      clear hr hro hsz
      obtain ⟨rA, rn, rc⟩ := r
      change _ = some (Value.slice rA rn rc) at hc0
      change Calls _ _ #[_, .slice rA rn rc] _ _ at hput
      go_wp2_with fail
      refine hput.mono ?_
      rintro e w2 ⟨rfl, v1, v2, v3, v4, h2⟩
      rw [← List.map_append, ← List.map_append, ← List.map_append, ← nsUp_succ, HT.out] at h2
      have H2 := Lib.hid h2
      clear hput h2 hc0
      go_wp2
      exact ⟨⟨k + 1, v1, v2, v3, v4, by omega, by go_num, H2⟩, by simp [intOf]; omega⟩
    · have hlt' : ¬ (k : Int) < m := by omega
      have hkm : k = m := by omega
      subst hkm
      have h9 := HG.out
      rw [List.take_of_length_le (by rw [HH.out.2.2.2.1]; exact Nat.le_refl _)] at h9
      have hal := hall k (Nat.le_refl _)
      have hap := bagApartN_any h9 (HI.out.1.mod h9.m (fun _ _ f => f)) (HK.out.1.mod h9.m (fun _ _ f => f)) (HE.out.1.mod h9.m (fun _ _ f => f)) (HH.out.2.1.mod h9.m (fun _ _ f => f)) HI.out.2.1 HK.out.2.1 HE.out.2.1 HH.out.2.2.1 (by rw [List.length_map]; exact hal) (by rw [List.length_map]; exact hal) (by rw [List.length_map]; exact hal) (by rw [HH.out.2.2.2.1]; exact hm) HI.out.2.2 HK.out.2.2 HE.out.2.2 (fun j r hr => by have := (HH.out.2.2.2.2 j r hr).2; omega)
      have HM := Lib.hid (And.intro h9.m hap)
      clear h9 hap HG
      go_wp2_with fail
      refine HM.out.2.mono ?_
      rintro e w2 ⟨rfl, m2⟩
      have M2 := Lib.hid (HM.out.1.nn.trans m2)
      clear m2
      go_wp2
      go_ret
      exact ⟨rfl, M2.out⟩
end Go.Proofs.YtfoldjnmknaklaaGreat
