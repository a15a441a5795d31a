/- peatbanklaw15.full: the two full nodes, an empty leaf and inner's. -/
import Derived.Test.YtfoldjnmknaklaaGreatNdAw
import Derived.Test.YtfoldjnmknaklaaGreatKit23
import Derived.Test.YtfoldjnmknaklaaGreatKitF
import Derived.Test.YtfoldjnmknaklaaGreatBgN
namespace Go.Proofs.YtfoldjnmknaklaaGreat
open Go.RowKit

def keyE (i : Nat) : List Nat := puts (List.replicate 40 0) [(0, i), (1, 255)]
def valE (i : Nat) : List Nat := puts (List.replicate 40 0) [(39, i + 1)]
def keyF (i : Nat) : List Nat := puts (List.replicate 40 0) [(0, 0), (1, i), (39, 9)]
def kidF (i : Nat) : Int := 1048576 - (i : Int) * 53000
def entsF (k : Nat) : List (List Nat) := (List.range k).map fun i => keyE i ++ valE i
def keysF (k : Nat) : List (List Nat) := (List.range (k - 1)).map fun i => keyF (i + 1)
def kidsF (k : Nat) : List Int := (List.range k).map kidF
theorem entsF_succ (k : Nat) : bv (entsF (k + 1)).flatten = bv (entsF k).flatten ++ bv (keyE k ++ valE k) := by
  unfold entsF bv
  rw [List.range_succ, List.map_append, List.flatten_append, List.map_append]
  simp
theorem keysF_succ (k : Nat) (hk : 0 < k) : bv (keysF (k + 1)).flatten = bv (keysF k).flatten ++ bv (keyF k) := by
  obtain ⟨j, rfl⟩ : ∃ j, k = j + 1 := ⟨k - 1, by omega⟩
  unfold keysF bv
  rw [Nat.add_sub_cancel, Nat.add_sub_cancel, List.range_succ, List.map_append, List.flatten_append, List.map_append]
  simp
theorem kidsF_succ (k : Nat) : (kidsF (k + 1)).map (Value.int .i64) = (kidsF k).map (Value.int .i64) ++ [.int .i64 (kidF k)] := by
  unfold kidsF
  rw [List.range_succ, List.map_append, List.map_append]
  rfl
theorem keyE_len (i : Nat) : (keyE i).length = 40 := by unfold keyE; rw [puts_len, List.length_replicate]
theorem valE_len (i : Nat) : (valE i).length = 40 := by unfold valE; rw [puts_len, List.length_replicate]
theorem keyF_len (i : Nat) : (keyF i).length = 40 := by unfold keyF; rw [puts_len, List.length_replicate]
section
variable {w : World} {o : Oper} {a : Act}
theorem exec_bnode {x : Operand} (ho : o.op = .build 32 #[(0, x)]) {b : Bool} (hx : a.eval x = .bool b) :
    (execOp a.eval o).run Tryz.prog w = .ok (.value (.agg #[.bool b, .slice none 0 0, .slice none 0 0, .slice none 0 0])) w := by
  have hb : Tryz.prog.built 32 (#[(0, .bool b)] : Array (Nat × Value)).toList = some #[.bool b, .slice none 0 0, .slice none 0 0, .slice none 0 0] := by cases b <;> kernel_rfl
  have hr := run_build (P := Tryz.prog) w _ _ _ hb
  simp only [execOp, ho, List.map_toArray, List.map_cons, List.map_nil, hx]
  simp [hr, Result.andThen]
theorem exec_bnodes {x0 x1 x2 x3 : Operand} (ho : o.op = .buildSlice 22 4 #[(0, x0), (1, x1), (2, x2), (3, x3)]) {a0 a1 a2 a3 b0 b1 b2 b3 c0 c1 c2 c3 d0 d1 d2 d3 : Value}
    (h0 : a.eval x0 = .agg #[a0, a1, a2, a3]) (h1 : a.eval x1 = .agg #[b0, b1, b2, b3]) (h2 : a.eval x2 = .agg #[c0, c1, c2, c3]) (h3 : a.eval x3 = .agg #[d0, d1, d2, d3]) :
    (execOp a.eval o).run Tryz.prog w = .ok (.value (.slice (some ⟨w.heap.size, 0, none⟩) 4 4)) (w.alloc (.cells #[a0, a1, a2, a3, b0, b1, b2, b3, c0, c1, c2, c3, d0, d1, d2, d3] 32)) := by
  obtain ⟨ie, hie, h⟩ := Option.map_eq_some_iff.1 info_node
  simp only [Prod.mk.injEq] at h
  obtain ⟨hz, hsz⟩ := h
  have hf : Instr.fill (fun i => some (i * ie.size, ie.size)) ((Array.range (4 * ie.size)).map ((Value.agg #[.bool false, .slice none 0 0, .slice none 0 0, .slice none 0 0]).cells[· % (Value.agg #[.bool false, .slice none 0 0, .slice none 0 0, .slice none 0 0]).cells.size]!)) (#[(0, .agg #[a0, a1, a2, a3]), (1, .agg #[b0, b1, b2, b3]), (2, .agg #[c0, c1, c2, c3]), (3, .agg #[d0, d1, d2, d3])] : Array (Nat × Value)).toList = some #[a0, a1, a2, a3, b0, b1, b2, b3, c0, c1, c2, c3, d0, d1, d2, d3] := by
    rw [hsz]
    kernel_rfl
  have hr := run_buildSlice (P := Tryz.prog) w 22 32 4 _ _ ie _ Tryz.underlying22 hie hz (by rw [hsz]; omega) (by rw [hsz]; omega) hf
  simp only [execOp, ho, List.map_toArray, List.map_cons, List.map_nil, h0, h1, h2, h3]
  simp [hr, Result.andThen]
end
theorem info_ent3' : (Tryz.prog.info? 43).map (fun i => (i.zero, i.size, i.bytes)) = some (some (.agg (bv (List.replicate 80 0)).toArray), 80, 80) := by kernel_rfl
section
variable {w : World} {o : Oper} {a : Act}
theorem exec_keyE {x y : Operand} (ho : o.op = .build 40 #[(0, x), (1, y)]) {k : Nat} (hx : a.eval x = .int .u8 (k : Int)) (hy : a.eval y = .int .u8 255) :
    (execOp a.eval o).run Tryz.prog w = .ok (.value (.agg (bv (keyE k)).toArray)) w :=
  exec_build_bytes (P := Tryz.prog) 40 5 40 _ ho Tryz.underlying40 (by kernel_rfl) (by kernel_rfl) [(0, k), (1, 255)] (by simp [hx, hy]) (by simp)
theorem exec_valE {x : Operand} (ho : o.op = .build 41 #[(39, x)]) {k : Nat} (hx : a.eval x = .int .u8 ((k : Int) + 1)) :
    (execOp a.eval o).run Tryz.prog w = .ok (.value (.agg (bv (valE k)).toArray)) w :=
  exec_build_bytes (P := Tryz.prog) 41 5 40 _ ho Tryz.underlying41 (by kernel_rfl) (by kernel_rfl) [(39, k + 1)] (by simp [hx]) (by simp)
theorem exec_keyF {x y z : Operand} (ho : o.op = .build 40 #[(0, x), (1, y), (39, z)]) {k : Nat} (hx : a.eval x = .int .u8 0) (hy : a.eval y = .int .u8 (k : Int)) (hz : a.eval z = .int .u8 9) :
    (execOp a.eval o).run Tryz.prog w = .ok (.value (.agg (bv (keyF k)).toArray)) w :=
  exec_build_bytes (P := Tryz.prog) 40 5 40 _ ho Tryz.underlying40 (by kernel_rfl) (by kernel_rfl) [(0, 0), (1, k), (39, 9)] (by simp [hx, hy, hz]) (by simp)
end
theorem info_tk3' : (Tryz.prog.info? 40).map (fun i => (i.zero, i.size, i.bytes)) = some (some (.agg (bv (List.replicate 40 0)).toArray), 40, 40) := by kernel_rfl
structure FuE (w wr : World) (p q k : Nat) (v : Value) : Prop where
  m : Mod Nn w wr
  a : Blk wr p 32 #[.bool true, v, .slice none 0 0, .slice none 0 0]
  e : wr.ownsRow w.heap.size 43 80 v k (bv (entsF k).flatten)
  b : Blk wr q 32 #[.bool false, .slice none 0 0, .slice none 0 0, .slice none 0 0]
structure FuK (w wr : World) (p q : Nat) (v : Value) (nk : Nat) (LK : List Value) (vk : Value) (nc : Nat) (LC : List Value) (vc : Value) : Prop where
  m : Mod Nn w wr
  a : Blk wr p 32 #[.bool true, v, .slice none 0 0, .slice none 0 0]
  e : wr.ownsRow w.heap.size 43 80 v 12 (bv (entsF 12).flatten)
  b : Blk wr q 32 #[.bool false, .slice none 0 0, vk, vc]
  k : wr.ownsRow w.heap.size 40 40 vk nk LK
  c : wr.ownsRow w.heap.size 3 1 vc nc LC
section
variable {w wr w5 : World} {p q nk nc m : Nat} {LK LC xs : List Value} {v vk vc v' : Value} {X : Array Value}
theorem FuK.nn {LK LC : List Value} (h : FuK w wr p q v nk LK vk nc LC vc) (hm : Mod Nn wr w5) : FuK w w5 p q v nk LK vk nc LC vc :=
  ⟨h.m.nn_ hm, h.a.mod hm (fun f => f), own_mod h.e hm (fun _ _ f => f), h.b.mod hm (fun f => f), own_mod h.k hm (fun _ _ f => f), own_mod h.c hm (fun _ _ f => f)⟩
theorem FuK.kid (h : FuK w wr p q v nk LK vk nc LC vc) (hp : w.heap.size ≤ p) (hpq : p < q) (own5 : w5.ownsRow w.heap.size 3 1 v' m xs) (two5 : AppTwo (wr.alloc (.cells X 3)) w5 vc nc 1 v') : FuK w (w5.setCell ⟨q, 3, none⟩ v') p q v nk LK vk m xs v' := by
  have ma : Mod Nn wr (wr.alloc (.cells X 3)) := (Mod.refl Nn _).alloc _
  have hb5 := (h.b.mod ma (fun f => f)).mod two5.mod (blk_ne_own h.b h.c (by decide))
  have ha5 := (h.a.mod ma (fun f => f)).mod two5.mod (blk_ne_own h.a h.c (by decide))
  have nq : ∀ {t : TypeId} {s n : Nat} {u : Value} {ys : List Value}, t ≠ 32 → w5.ownsRow w.heap.size t s u n ys → ∀ g, u.ownBlock = some g → ¬ At q g := fun ht ho g hg e => by
    have e : g = q := e
    subst e
    exact blk_ne_own hb5 ho (fun e => ht e.symm) hg
  have he5 := own_mod (own_mod h.e ma (fun _ _ f => f)) two5.mod (fun g hg => own_ne (own_mod h.e ma (fun _ _ f => f)) (own_mod h.c ma (fun _ _ f => f)) (by decide) hg)
  have hk5 := own_mod (own_mod h.k ma (fun _ _ f => f)) two5.mod (fun g hg => own_ne (own_mod h.k ma (fun _ _ f => f)) (own_mod h.c ma (fun _ _ f => f)) (by decide) hg)
  have mq := Mod.cellAt w5 q 3 v'
  exact ⟨((h.m.alloc _).then_ two5.mod (fun g hg hvg => by have := own_ge h.c g hvg; omega)).new_ mq (by omega), ha5.mod mq (fun e => by have e : p = q := e; omega), own_mod he5 mq (nq (by decide) he5), hb5.set_ 3 v', own_mod hk5 mq (nq (by decide) hk5), own_mod own5 mq (nq (by decide) own5)⟩
theorem FuK.key (h : FuK w wr p q v nk LK vk nc LC vc) (hp : w.heap.size ≤ p) (hpq : p < q) (own5 : w5.ownsRow w.heap.size 40 40 v' m xs) (two5 : AppTwo (wr.alloc (.cells X 40)) w5 vk nk 1 v') : FuK w (w5.setCell ⟨q, 2, none⟩ v') p q v m xs v' nc LC vc := by
  have ma : Mod Nn wr (wr.alloc (.cells X 40)) := (Mod.refl Nn _).alloc _
  have hb5 := (h.b.mod ma (fun f => f)).mod two5.mod (blk_ne_own h.b h.k (by decide))
  have ha5 := (h.a.mod ma (fun f => f)).mod two5.mod (blk_ne_own h.a h.k (by decide))
  have nq : ∀ {t : TypeId} {s n : Nat} {u : Value} {ys : List Value}, t ≠ 32 → w5.ownsRow w.heap.size t s u n ys → ∀ g, u.ownBlock = some g → ¬ At q g := fun ht ho g hg e => by
    have e : g = q := e
    subst e
    exact blk_ne_own hb5 ho (fun e => ht e.symm) hg
  have he5 := own_mod (own_mod h.e ma (fun _ _ f => f)) two5.mod (fun g hg => own_ne (own_mod h.e ma (fun _ _ f => f)) (own_mod h.k ma (fun _ _ f => f)) (by decide) hg)
  have hc5 := own_mod (own_mod h.c ma (fun _ _ f => f)) two5.mod (fun g hg => own_ne (own_mod h.c ma (fun _ _ f => f)) (own_mod h.k ma (fun _ _ f => f)) (by decide) hg)
  have mq := Mod.cellAt w5 q 2 v'
  exact ⟨((h.m.alloc _).then_ two5.mod (fun g hg hvg => by have := own_ge h.k g hvg; omega)).new_ mq (by omega), ha5.mod mq (fun e => by have e : p = q := e; omega), own_mod he5 mq (nq (by decide) he5), hb5.set_ 2 v', own_mod own5 mq (nq (by decide) own5), own_mod hc5 mq (nq (by decide) hc5)⟩
end
/-- what full hands out -/
def FullP (w : World) (r : Ending) (w' : World) : Prop :=
  ∃ B E0 e0 K0 k0 C0 c0 gk gc, r = .returned (.slice (some ⟨B, 0, none⟩) 4 4) ∧ w.heap.size ≤ B ∧
    Blk w' B 32 #[.bool true, .slice E0 12 e0, .slice none 0 0, .slice none 0 0, .bool false, .slice none 0 0, .slice K0 19 k0, .slice C0 20 c0, .bool true, .slice none 0 0, .slice none 0 0, .slice none 0 0, .bool false, .slice none 0 0, .slice (some ⟨gk, 0, none⟩) 1 1, .slice (some ⟨gc, 0, none⟩) 2 2] ∧
    RdC w' E0 12 80 (bv (entsF 12).flatten) ∧ RdC w' K0 19 40 (bv (keysF 20).flatten) ∧ Rd w' C0 20 ((kidsF 20).map (Value.int .i64)) ∧ NdR w' Nin none 0 (some ⟨gk, 0, none⟩) 1 (some ⟨gc, 0, none⟩) 2 ∧ Mod Nn w w'
set_option maxRecDepth 100000 in
set_option maxHeartbeats 3200000 in
theorem full_any (w : World) : Calls Tryz.prog 4 #[] w (FullP w) := by
  go_enter Tryz.func4, Tryz.ntmps4
  go_wp2_with (first
    | (with_reducible change wpList _ _ _ (⟨some 1, Op.alloc _, _, _, _, _⟩ :: _) _ _
       go_must (refine wpList_alloc_var 32 rfl rfl info_node ?_)
       intro w1 b1 m1 z1
       have H1 := Lib.hid (And.intro b1 (And.intro m1 z1))
       clear b1 m1 z1)
    | (with_reducible change wpList _ _ _ (⟨some 2, Op.alloc _, _, _, _, _⟩ :: _) _ _
       go_must (refine wpList_alloc_var 32 rfl rfl info_node ?_)
       intro w2 b2 m2 z2
       have H2 := Lib.hid (And.intro (H1.out.1.mod m2 (fun f => f)) (And.intro b2 (And.intro (H1.out.2.1.nn_ m2) (show w.heap.size < w1.heap.size from H1.out.1.lt))))
       clear b2 m2 z2)
    | (with_reducible change wpList _ _ _ (⟨none, Op.store _ (.tmp 1) _, _, _, _, _⟩ :: _) _ _
       go_must (refine wpList_store_var 32 _ _ rfl rfl w.heap.size #[.bool true, .slice none 0 0, .slice none 0 0, .slice none 0 0] _ _ rfl rfl H2.out.1 size_node rfl (one_nd _ _ _ _ _ _ _ _ _ _) ?_)
       intro w3 b3 m3 z3
       have H3 := Lib.hid (And.intro b3 (And.intro (H2.out.2.1.mod m3 (fun e => by have e : w1.heap.size = w.heap.size := e; have := H2.out.2.2.2; omega)) (H2.out.2.2.1.new_ m3 (Nat.le_refl _))))
       clear b3 m3 z3)
    | (with_reducible change wpList _ _ _ (⟨none, Op.store _ (.tmp 2) _, _, _, _, _⟩ :: _) _ _
       go_must (refine wpList_store_var 32 _ _ rfl rfl w1.heap.size #[.bool false, .slice none 0 0, .slice none 0 0, .slice none 0 0] _ _ rfl rfl H3.out.2.1 size_node rfl (one_nd _ _ _ _ _ _ _ _ _ _) ?_)
       intro w4 b4 m4 z4
       have H4 : Hid (FuE w w4 w.heap.size w1.heap.size 0 (.slice none 0 0)) := Lib.hid ⟨H3.out.2.2.new_ m4 (Nat.le_of_lt H2.out.2.2.2), H3.out.1.mod m4 (fun e => by have e : w.heap.size = w1.heap.size := e; have := H2.out.2.2.2; omega), own_nil _ _ _ _, b4⟩
       clear b4 m4 z4))
  have hpq := H2.out.2.2.2
  clear H1 H2 H3
  generalize w1.heap.size = q at *
  go_loopw [3] (fun i wr => ∃ (k : Nat) (v : Value), k ≤ 12 ∧ i = .int .i64 k ∧ FuE w wr w.heap.size q k v) (fun i _ => 12 - (intOf i).toNat)
  case atStart => exact ⟨0, _, by omega, rfl, H4.out⟩
  case round =>
    clear H4
    obtain ⟨k, v, hk, rfl, I⟩ := hrel
    by_cases hlt : k < 12
    · have hlt' : (k : Int) < 12 := by omega
      have c1 := I.a.cell 1
      have f1 := I.a.frozen 1
      obtain ⟨A0, c0, rfl, hnc, hAb⟩ := own_form I.e
      have HI := Lib.hid (And.intro I (show k < 12 from hlt))
      clear I hAb hlt
      go_wp2_with (first
        | (with_reducible change wpList _ _ _ (⟨some 15, _, _, _, _, _⟩ :: _) _ _
           go_must (refine wpList_val rfl (exec_keyE (k := k) rfl rfl rfl) ?_)
           generalize hK : (bv (keyE k)).toArray = KK
           have HK := Lib.hid hK
           clear hK)
        | (with_reducible change wpList _ _ _ (⟨some 19, _, _, _, _, _⟩ :: _) _ _
           go_must (refine wpList_val rfl (exec_valE (k := k) rfl rfl) ?_)
           generalize hV : (bv (valE k)).toArray = VV
           have HV := Lib.hid hV
           clear hV)
        | (with_reducible change wpList _ _ _ (⟨some 20, _, _, _, _, _⟩ :: _) _ _
           go_must (refine wpList_val rfl (exec_build_two (P := Tryz.prog) 43 _ _ rfl (s := 40) (z := .agg (bv (List.replicate 80 0)).toArray) (by kernel_rfl) (by rw [Value.cells, bv_size, List.length_replicate]) (by omega) Tryz.underlying43 (by kernel_rfl) (X := KK) (Y := VV) rfl rfl (by rw [← HK.out, bv_size, keyE_len]) (by rw [← HV.out, bv_size, valE_len])) ?_)
           have hE : KK ++ VV = (bv (keyE k ++ valE k)).toArray := by rw [← HK.out, ← HV.out, List.append_toArray, ← bv_append]
           rw [hE]
           have hEl : (bv (keyE k ++ valE k)).length = 80 := by rw [bv_len, List.length_append, keyE_len, valE_len]
           have hEs := entsF_succ k
           have hEo := bv_one (keyE k ++ valE k)
           generalize bv (keyE k ++ valE k) = EE at *
           have HE := Lib.hid (And.intro hEl (And.intro hEs hEo))
           clear hE hEl hEs hEo)
        | (with_reducible change wpList _ _ _ (⟨some 21, _, _, _, _, _⟩ :: _) _ _
           go_must (refine wpList_val rfl (exec_bslice1 (P := Tryz.prog) 28 43 _ rfl (s := 80) Tryz.underlying28 info_ent (by omega) (by omega) rfl (X := EE.toArray) rfl (by rw [List.size_toArray, HE.out.1])) ?_))
        | (with_reducible change wpList _ _ _ (⟨some 22, _, _, _, _, _⟩ :: _) _ _
           go_must (refine wpList_append_two 28 _ _ rfl rfl w.heap.size 43 _ 80 80 Tryz.underlying28 info_ent3' (by rw [Value.cells, bv_size, List.length_replicate]) (by omega) (.slice A0 k c0) k _ rfl (own_mod HI.out.1.e ((Mod.refl Nn _).alloc _) (fun _ _ f => f)) _ 1 1 EE rfl (RdC.of_blk (Blk.new _ _ _) HE.out.1) (by omega) HE.out.2.2 (by have := HI.out.2; omega) (by have := HI.out.2; omega) (by have := HI.out.1.m.size; rw [World.size_alloc]; omega) ?_)
           intro v' w5 own5 two5
           have hb5 := (HI.out.1.a.alloc (.cells EE.toArray 43)).mod two5.mod (blk_ne_own HI.out.1.a HI.out.1.e (by decide))
           have hq5 := (HI.out.1.b.alloc (.cells EE.toArray 43)).mod two5.mod (blk_ne_own HI.out.1.b HI.out.1.e (by decide))
           have hs := hb5.set_ 1 v'
           have hsq := hq5.mod (Mod.cellAt w5 w.heap.size 1 v') (fun e => by have e : q = w.heap.size := e; omega)
           have hv' : ∀ g, v'.ownBlock = some g → ¬ At w.heap.size g := fun g hg e => by
             have e : g = w.heap.size := e
             subst e
             exact blk_ne_own hb5 own5 (by decide) hg
           have hos := own_mod own5 (Mod.cellAt w5 w.heap.size 1 v') hv'
           rw [← HE.out.2.1] at hos
           have ms : Mod Nn w (w5.setCell ⟨w.heap.size, 1, none⟩ v') := ((HI.out.1.m.alloc _).then_ two5.mod (fun g hg hvg => by have := own_ge HI.out.1.e g hvg; omega)).new_ (Mod.cellAt w5 w.heap.size 1 v') (Nat.le_refl _)
           have HN : Hid (FuE w (w5.setCell ⟨w.heap.size, 1, none⟩ v') w.heap.size q (k + 1) v') := Lib.hid ⟨ms, hs, hos, hsq⟩
           have hf := hb5.frozen 1
           have cc : w5.cell? ⟨w.heap.size, 1, none⟩ = some (.slice A0 k c0) := hb5.cell 1
           obtain ⟨A', c', rfl, -, -⟩ := own_form own5
           clear own5 two5 hb5 hq5 hs hsq hos ms hv'))
      exact ⟨⟨k + 1, _, by have := HI.out.2; omega, by go_num, HN.out⟩, by simp [intOf]; have := HI.out.2; omega⟩
    · have hlt' : ¬ (k : Int) < 12 := by omega
      have hk12 : k = 12 := by omega
      have he12 := I.e
      rw [hk12] at he12
      have H5 : Hid (FuK w wr w.heap.size q v 0 [] (.slice none 0 0) 0 [] (.slice none 0 0)) := Lib.hid ⟨I.m, I.a, he12, I.b, own_nil _ _ _ _, own_nil _ _ _ _⟩
      clear I hlt hk he12 hk12
      go_wp2
      go_loopw [4] (fun i wr' => ∃ (k : Nat) (vk vc : Value), k ≤ 20 ∧ i = .int .i64 k ∧ FuK w wr' w.heap.size q v (k - 1) (bv (keysF k).flatten) vk k ((kidsF k).map (Value.int .i64)) vc) (fun i _ => 20 - (intOf i).toNat)
      case atStart => exact ⟨0, _, _, by omega, rfl, H5.out⟩
      case round =>
        clear H5
        obtain ⟨k, vk, vc, hk, rfl, I⟩ := hrel
        by_cases hlt : k < 20
        · have hlt' : (k : Int) < 20 := by omega
          have cK := I.b.cell 2
          have cC := I.b.cell 3
          have fC := I.b.frozen 3
          obtain ⟨K0, k0, rfl, hnk, -⟩ := own_form I.k
          obtain ⟨C0, c0, rfl, hnc, -⟩ := own_form I.c
          have hkb : k - 1 < 20 := by omega
          have HI := Lib.hid (And.intro I (show k < 20 from hlt))
          have hsk := kidsF_succ k
          have HS := Lib.hid hsk
          by_cases hk0 : k = 0
          · have hk0' : ¬ (0 : Int) < k := by omega
            have HZ := Lib.hid hk0
            clear I hlt hsk hk0
            go_wp2_with (first
              | (with_reducible change wpList _ _ _ (⟨some 34, _, _, _, _, _⟩ :: _) _ _
                 go_must (refine wpList_append_two 30 _ _ rfl rfl w.heap.size 3 (.int .i64 0) 1 8 Tryz.underlying30 info_i64 rfl (by omega) (.slice C0 k c0) k _ rfl (own_mod HI.out.1.c ((Mod.refl Nn _).alloc _) (fun _ _ f => f)) _ 1 1 [.int .i64 (kidF k)] rfl (Rd.of_blk0 (Blk.new _ _ _) rfl).toC (by omega) (fun u hu => by rw [List.mem_singleton.1 hu]; rfl) (by have := HI.out.2; omega) (by have := HI.out.2; omega) (by have := HI.out.1.m.size; rw [World.size_alloc]; omega) ?_)
                 intro v' w5 own5 two5
                 rw [← HS.out] at own5
                 have HK := Lib.hid (HI.out.1.kid (Nat.le_refl _) hpq own5 two5)
                 have hb5 := (HI.out.1.b.mod ((Mod.refl Nn _).alloc _) (fun f => f)).mod two5.mod (blk_ne_own HI.out.1.b HI.out.1.c (by decide))
                 have hf := hb5.frozen 3
                 have cc : w5.cell? ⟨q, 3, none⟩ = some (.slice C0 k c0) := hb5.cell 3
                 have cK5 := HK.out.b.cell 2
                 have fK5 := HK.out.b.frozen 2
                 obtain ⟨A', c', rfl, -, -⟩ := own_form own5
                 clear own5 two5 hb5)
            )
            have hz := HZ.out
            have h := HK.out
            rw [show keysF k = keysF (k + 1) from by rw [hz]; rfl, show k - 1 = k + 1 - 1 from by omega] at h
            exact ⟨⟨k + 1, _, _, by have := HI.out.2; omega, by go_num, h⟩, by simp [intOf]; have := HI.out.2; omega⟩
          · have hk0' : (0 : Int) < k := by omega
            have hkp : 0 < k := by omega
            have HP := Lib.hid hkp
            have hks := keysF_succ k hkp
            have hkl := keyF_len k
            have HF := Lib.hid (And.intro hks hkl)
            clear I hlt hsk hk0 hkp hks hkl
            go_wp2_with (first
              | (with_reducible change wpList _ _ _ (⟨some 34, _, _, _, _, _⟩ :: _) _ _
                 go_must (refine wpList_append_two 30 _ _ rfl rfl w.heap.size 3 (.int .i64 0) 1 8 Tryz.underlying30 info_i64 rfl (by omega) (.slice C0 k c0) k _ rfl (own_mod HI.out.1.c ((Mod.refl Nn _).alloc _) (fun _ _ f => f)) _ 1 1 [.int .i64 (kidF k)] rfl (Rd.of_blk0 (Blk.new _ _ _) rfl).toC (by omega) (fun u hu => by rw [List.mem_singleton.1 hu]; rfl) (by have := HI.out.2; omega) (by have := HI.out.2; omega) (by have := HI.out.1.m.size; rw [World.size_alloc]; omega) ?_)
                 intro v' w5 own5 two5
                 rw [← HS.out] at own5
                 have HK := Lib.hid (HI.out.1.kid (Nat.le_refl _) hpq own5 two5)
                 have hb5 := (HI.out.1.b.mod ((Mod.refl Nn _).alloc _) (fun f => f)).mod two5.mod (blk_ne_own HI.out.1.b HI.out.1.c (by decide))
                 have hf := hb5.frozen 3
                 have cc : w5.cell? ⟨q, 3, none⟩ = some (.slice C0 k c0) := hb5.cell 3
                 have cK5 := HK.out.b.cell 2
                 have fK5 := HK.out.b.frozen 2
                 obtain ⟨A', c', rfl, -, -⟩ := own_form own5
                 clear own5 two5 hb5)
              | (with_reducible change wpList _ _ _ (⟨some 42, _, _, _, _, _⟩ :: _) _ _
                 go_must (refine wpList_val rfl (exec_keyF (k := k) rfl rfl rfl rfl) ?_)
                 have hKo := bv_one (keyF k)
                 have hKl : (bv (keyF k)).length = 40 := by rw [bv_len, HF.out.2]
                 have hKs := HF.out.1
                 generalize bv (keyF k) = FF at *
                 have HE := Lib.hid (And.intro hKl (And.intro hKs hKo))
                 clear hKo hKl hKs)
              | (with_reducible change wpList _ _ _ (⟨some 43, _, _, _, _, _⟩ :: _) _ _
                 go_must (refine wpList_val rfl (exec_bslice1 (P := Tryz.prog) 29 40 _ rfl (s := 40) Tryz.underlying29 info_tk (by omega) (by omega) rfl (X := FF.toArray) rfl (by rw [List.size_toArray, HE.out.1])) ?_))
              | (with_reducible change wpList _ _ _ (⟨some 44, _, _, _, _, _⟩ :: _) _ _
                 go_must (refine wpList_append_two 29 _ _ rfl rfl w.heap.size 40 _ 40 40 Tryz.underlying29 info_tk3' (by rw [Value.cells, bv_size, List.length_replicate]) (by omega) (.slice K0 (k - 1) k0) (k - 1) _ rfl (own_mod HK.out.k ((Mod.refl Nn _).alloc _) (fun _ _ f => f)) _ 1 1 FF rfl (RdC.of_blk (Blk.new _ _ _) HE.out.1) (by omega) HE.out.2.2 (by have := HI.out.2; omega) (by have := HI.out.2; omega) (by have := HK.out.m.size; rw [World.size_alloc]; omega) ?_)
                 intro u' w6 own6 two6
                 rw [← HE.out.2.1, show k - 1 + 1 = k + 1 - 1 from by have := HP.out; omega] at own6
                 have HN := Lib.hid (HK.out.key (Nat.le_refl _) hpq own6 two6)
                 have hb6 := (HK.out.b.mod ((Mod.refl Nn _).alloc _) (fun f => f)).mod two6.mod (blk_ne_own HK.out.b HK.out.k (by decide))
                 have hf6 := hb6.frozen 2
                 have cc6 : w6.cell? ⟨q, 2, none⟩ = some (.slice K0 (k - 1) k0) := hb6.cell 2
                 obtain ⟨B', d', rfl, -, -⟩ := own_form own6
                 clear own6 two6 hb6)
            )
            exact ⟨⟨k + 1, _, _, by have := HI.out.2; omega, by go_num, HN.out⟩, by simp [intOf]; have := HI.out.2; omega⟩
        · have hlt' : ¬ (k : Int) < 20 := by omega
          have hk20 : k = 20 := by omega
          have I' := I
          rw [hk20] at I'
          obtain ⟨E0, e0, rfl, -, -⟩ := own_form I'.e
          obtain ⟨K0, k0, rfl, -, -⟩ := own_form I'.k
          obtain ⟨C0, c0, rfl, -, -⟩ := own_form I'.c
          have HI := Lib.hid I'
          clear I I' hlt hk hk20
          go_upto_region 12 with fail
          refine wp_region_planC (fun w' => FuK w w' w.heap.size q (.slice E0 12 e0) 19 (bv (keysF 20).flatten) (.slice K0 19 k0) 20 ((kidsF 20).map (Value.int .i64)) (.slice C0 20 c0)) [(0, true), (1, true), (2, true), (3, false), (4, false), (5, true)] (by kernel_rfl) (by kernel_rfl) (HI.out.nn (Mod.refl Nn _).drew) ?_
          refine pc_take _ rfl rfl (fun w' hS => exec_load_row (P := Tryz.prog) 32 _ rfl rfl hS.a Tryz.underlying32 rfl size_node) (fun K hK => ?_); go_simp; refine hK _ ?_; clear hK K
          refine pc_take _ rfl rfl (fun w' hS => exec_load_row (P := Tryz.prog) 32 _ rfl rfl hS.b Tryz.underlying32 rfl size_node) (fun K hK => ?_); go_simp; refine hK _ ?_; clear hK K
          refine pc_take _ rfl rfl (fun w' _ => exec_bnode rfl (b := true) rfl) (fun K hK => ?_); go_simp; refine hK _ ?_; clear hK K
          refine pc_call rfl rfl (fun K hK => ?_); go_simp; refine ⟨_, _, ⟨rfl, rfl⟩, hK _ _ _ ?_⟩; clear hK K
          refine (inner_any _).mono ?_
          rintro r w5 ⟨gk, gc, rfl, n5, m5⟩
          have H6 := Lib.hid (And.intro ((HI.out.nn (Mod.refl Nn _).drew).nn m5) n5)
          clear n5 m5
          unfold ndV
          refine ⟨_, rfl, H6.out.1, ?_⟩
          refine pc_val rfl rfl (exec_bnodes rfl rfl rfl rfl rfl) (H6.out.1.nn ((Mod.refl Nn _).alloc _)) (fun K hK => ?_); go_simp; refine hK _ ?_; clear hK K
          iterate 1 (refine pc_pure rfl rfl (fun K hK => ?_); go_simp; refine hK _ ?_; clear hK K)
          refine pc_nil ?_
          have m7 : Mod Nn w5 (w5.alloc (.cells #[.bool true, .slice E0 12 e0, .slice none 0 0, .slice none 0 0, .bool false, .slice none 0 0, .slice K0 19 k0, .slice C0 20 c0, .bool true, .slice none 0 0, .slice none 0 0, .slice none 0 0, .bool false, .slice none 0 0, .slice (some ⟨gk, 0, none⟩) 1 1, .slice (some ⟨gc, 0, none⟩) 2 2] 32)) := (Mod.refl Nn _).alloc _
          have hP : FullP w (.returned (.slice (some ⟨w5.heap.size, 0, none⟩) 4 4)) (w5.alloc (.cells #[.bool true, .slice E0 12 e0, .slice none 0 0, .slice none 0 0, .bool false, .slice none 0 0, .slice K0 19 k0, .slice C0 20 c0, .bool true, .slice none 0 0, .slice none 0 0, .slice none 0 0, .bool false, .slice none 0 0, .slice (some ⟨gk, 0, none⟩) 1 1, .slice (some ⟨gc, 0, none⟩) 2 2] 32)) :=
            ⟨w5.heap.size, E0, e0, K0, k0, C0, c0, gk, gc, rfl, H6.out.1.m.size, Blk.new _ _ _, own_rdC (H6.out.1.nn m7).e, own_rdC (H6.out.1.nn m7).k, Rd.of_own (H6.out.1.nn m7).c, H6.out.2.nn m7, (H6.out.1.nn m7).m⟩
          have HP := Lib.hid hP
          clear hP m7
          go_wp2
          go_ret
          exact HP.out
end Go.Proofs.YtfoldjnmknaklaaGreat
