/- Own lemmas of several kinds, put together: Nd4, Nd5. -/
import Derived.Test.YtfoldjnmknaklaaGreatNd3
import Derived.Test.YtfoldjnmknaklaaGreatKitD
import Derived.Test.YtfoldjnmknaklaaGreatCrc5
/- node.four. -/
namespace Go.Proofs.YtfoldjnmknaklaaGreat
open Go.RowKit

theorem size_u8n : (Tryz.prog.info? 5).map (·.size) = some 1 := by kernel_rfl
theorem num4 (N : Nat) : num N 4 = [N / 2 ^ 24 % 256] ++ [N / 2 ^ 16 % 256] ++ [N / 2 ^ 8 % 256] ++ [N % 256] := by
  simp [num, Nat.div_div_eq_div_mul]
section
variable {w : World} {g cap q n c : Nat} {L : List Nat}
set_option maxRecDepth 100000 in
set_option maxHeartbeats 1600000 in
theorem nfour_any (h : Out w g 5 cap L) (hL : L.length = q) (hq : q + 4 ≤ cap) (hn : 4 ≤ n) (N : Nat) (hN : N < 4294967296) :
    Calls Tryz.prog 15 #[.slice (some ⟨g, q, none⟩) n c, .int .u32 (N : Int)] w fun e w' => e = .returned (.tuple #[]) ∧ Out w' g 5 cap (L ++ num N 4) ∧ Mod (At g) w w' := by
  have hn1 : (0 : Int) < n := by omega
  have hn2 : (1 : Int) < n := by omega
  have hn3 : (2 : Int) < n := by omega
  have hn4 : (3 : Int) < n := by omega
  obtain ⟨b0, h0⟩ : ∃ b, N / 2 ^ 24 % 256 = b := ⟨_, rfl⟩
  obtain ⟨b1, h1⟩ : ∃ b, N / 2 ^ 16 % 256 = b := ⟨_, rfl⟩
  obtain ⟨b2, h2⟩ : ∃ b, N / 2 ^ 8 % 256 = b := ⟨_, rfl⟩
  obtain ⟨b3, h3⟩ : ∃ b, N % 256 = b := ⟨_, rfl⟩
  have e0 : (N : Int) / 16777216 = (b0 : Int) := by omega
  have e1 : (N : Int) / 65536 % 256 = (b1 : Int) := by omega
  have e2 : (N : Int) / 256 % 256 = (b2 : Int) := by omega
  have e3 : (N : Int) % 256 = (b3 : Int) := by omega
  have hN4 := num4 N
  rw [h0, h1, h2, h3] at hN4
  have o1 := h.put1 hL (by omega) b0
  have o2 := o1.put1 (q := q + 1) (by rw [List.length_append, hL]; rfl) (by omega) b1
  have o3 := o2.put1 (q := q + 2) (by rw [List.length_append, List.length_append, hL]; rfl) (by omega) b2
  have o4 := o3.put1 (q := q + 3) (by rw [List.length_append, List.length_append, List.length_append, hL]; rfl) (by omega) b3
  have m0 : Mod (At g) w ((((w.setCell ⟨g, q, none⟩ (.int .u8 b0)).setCell ⟨g, q + 1, none⟩ (.int .u8 b1)).setCell ⟨g, q + 2, none⟩ (.int .u8 b2)).setCell ⟨g, q + 3, none⟩ (.int .u8 b3)) :=
    (((Mod.cellAt _ _ _ _).trans (Mod.cellAt _ _ _ _)).trans (Mod.cellAt _ _ _ _)).trans (Mod.cellAt _ _ _ _)
  have HO := Lib.hid (And.intro h (And.intro o1 (And.intro o2 (And.intro o3 (And.intro o4 (And.intro m0 (And.intro hN4 (show q + 4 ≤ cap from hq))))))))
  clear h hL hn h0 h1 h2 h3 o1 o2 o3 o4 m0 hN4
  go_enter Tryz.func15, Tryz.ntmps15
  go_wp2_with (first
    | (with_reducible change wpList _ _ _ (⟨none, Op.store _ (Operand.tmp 19) _, _, _, _, _⟩ :: _) _ _
       go_must (refine wpList_unit rfl (exec_store1 (P := Tryz.prog) (v := .int .u8 (b0 : Int)) 5 _ _ rfl rfl rfl (HO.out.1.get (i := q) (by omega)) (HO.out.1.blk.frozen _) rfl rfl rfl size_u8n) ?_))
    | (with_reducible change wpList _ _ _ (⟨none, Op.store _ (Operand.tmp 20) _, _, _, _, _⟩ :: _) _ _
       go_must (refine wpList_unit rfl (exec_store1 (P := Tryz.prog) (v := .int .u8 (b1 : Int)) 5 _ _ rfl rfl rfl (HO.out.2.1.get (i := q + 1) (by omega)) (HO.out.2.1.blk.frozen _) rfl rfl rfl size_u8n) ?_))
    | (with_reducible change wpList _ _ _ (⟨none, Op.store _ (Operand.tmp 21) _, _, _, _, _⟩ :: _) _ _
       go_must (refine wpList_unit rfl (exec_store1 (P := Tryz.prog) (v := .int .u8 (b2 : Int)) 5 _ _ rfl rfl rfl (HO.out.2.2.1.get (i := q + 2) (by omega)) (HO.out.2.2.1.blk.frozen _) rfl rfl rfl size_u8n) ?_))
    | (with_reducible change wpList _ _ _ (⟨none, Op.store _ (Operand.tmp 22) _, _, _, _, _⟩ :: _) _ _
       go_must (refine wpList_unit rfl (exec_store1 (P := Tryz.prog) (v := .int .u8 (b3 : Int)) 5 _ _ rfl rfl rfl (HO.out.2.2.2.1.get (i := q + 3) (by omega)) (HO.out.2.2.2.1.blk.frozen _) rfl rfl rfl size_u8n) ?_)))
  go_end0
  have ho := HO.out.2.2.2.2.1
  refine ⟨rfl, ?_, HO.out.2.2.2.2.2.1⟩
  rw [HO.out.2.2.2.2.2.2.1]
  simpa [List.append_assoc] using ho
end
end Go.Proofs.YtfoldjnmknaklaaGreat

/- node.Put: what is not right; the header. -/
namespace Go.Proofs.YtfoldjnmknaklaaGreat
open Go.RowKit

theorem size_node : (Tryz.prog.info? 32).map (·.size) = some 4 := by kernel_rfl
section
variable {w w' : World} {N : Nd} {EA KA CA : Option Addr} {en ec kn kc cn cc : Nat} {S : Nat → Prop}
theorem nd_kids (h : NdR w N EA en KA kn CA cn) (hr : N.right = true) : en ≤ 12 ∧ kn ≤ 19 ∧ cn ≤ 20 ∧ (N.leaf = true → kn = 0 ∧ cn = 0) ∧ (N.leaf = false → en = 0 ∧ kn + 1 = cn ∧ N.kids.all kidOk = true) := by
  cases hl : N.leaf with
  | true =>
    unfold Nd.right at hr
    rw [if_pos hl, h.kl, h.cl, h.el] at hr
    simp at hr
    exact ⟨by omega, by omega, by omega, fun _ => by omega, (fun h => by cases h)⟩
  | false =>
    rw [right_inner h hl] at hr
    simp only [Bool.and_eq_true, decide_eq_true_eq, beq_iff_eq] at hr
    exact ⟨by omega, by omega, by omega, (fun h => by cases h), fun _ => ⟨by omega, by omega, hr.1.1.1.1.1⟩⟩
set_option maxRecDepth 100000 in
set_option maxHeartbeats 3200000 in
theorem nput_bad (h : NdR w N EA en KA kn CA cn) (hr : N.right = false) :
    Calls Tryz.prog 5 #[ndV N.leaf EA en ec KA kn kc CA cn cc] w fun e w' => e = .returned (.tuple #[.slice none 0 0, .int .i64 4]) ∧ Mod Nn w w' := by
  have hn := nright_any (ec := ec) (kc := kc) (cc := cc) (h.nn ((Mod.refl Nn w).alloc (.cells #[.bool N.leaf, .slice EA en ec, .slice KA kn kc, .slice CA cn cc] 32)))
  have M : Mod Nn w (w.alloc (.cells #[.bool N.leaf, .slice EA en ec, .slice KA kn kc, .slice CA cn cc] 32)) := (Mod.refl Nn w).alloc _
  have B : Blk (w.alloc (.cells #[.bool N.leaf, .slice EA en ec, .slice KA kn kc, .slice CA cn cc] 32)) w.heap.size 32 #[.bool N.leaf, .slice EA en ec, .slice KA kn kc, .slice CA cn cc] := Blk.new w _ _
  unfold ndV at hn ⊢
  have HN := Lib.hid (And.intro hn (And.intro M B))
  clear hn M B h
  go_enter Tryz.func5, Tryz.ntmps5
  go_wp2_with (first
    | (with_reducible change wpList _ _ _ (⟨_, Op.load _ _, _, _, _, _⟩ :: _) _ _
       go_must (refine wpList_load_var 32 _ rfl rfl w.heap.size #[.bool N.leaf, .slice EA en ec, .slice KA kn kc, .slice CA cn cc] _ _ rfl HN.out.2.2 Tryz.underlying32 rfl size_node ?_)))
  refine HN.out.1.mono ?_
  rintro r w1 ⟨rfl, m1⟩
  rw [hr]
  go_wp2
  go_ret2
  exact ⟨rfl, HN.out.2.1.trans m1⟩
end
end Go.Proofs.YtfoldjnmknaklaaGreat
