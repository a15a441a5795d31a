/- Own lemmas of several kinds, put together: Jn14, Jn18. -/
import Derived.Test.YtijmkbhbpbkkoaaGreatJnD
import Derived.Test.YtijmkbhbpbkkoaaGreatFrM
import Derived.Test.YtijmkbhbpbkkoaaGreatKitF
import Derived.Test.YtijmkbhbpbkkoaaGreatJn17
import Derived.Test.YtijmkbhbpbkkoaaGreatDevB
import Derived.Test.YtijmkbhbpbkkoaaGreatKitE
/- peatbankref21.Next: the sectors of a record, by the document. -/
namespace Go.Proofs.YtijmkbhbpbkkoaaGreat
open Go.RowKit

section
variable {w : World} {A : Option Addr} {m cc : Nat} {l : List Nat}
theorem exec_frameJ {w : World} {o : Oper} {a : Act} {x0 x1 x2 x3 : Operand} (ho : o.op = .build 76 #[(0, x0), (1, x1), (2, x2), (3, x3)]) {k e s : Int} {A : Option Addr} {n c : Nat} (h0 : a.eval x0 = .int .i64 k) (h1 : a.eval x1 = .int .i64 e) (h2 : a.eval x2 = .int .i64 s) (h3 : a.eval x3 = .slice A n c) :
    (execOp a.eval o).run Tryz.prog w = .ok (.value (frV k e s A n c)) w := by
  have hb : Tryz.prog.built 76 (#[(0, Value.int .i64 k), (1, .int .i64 e), (2, .int .i64 s), (3, .slice A n c)] : Array (Nat × Value)).toList = some #[.int .i64 k, .int .i64 e, .int .i64 s, .slice A n c] := by kernel_rfl
  have hr := run_build (P := Tryz.prog) w 76 #[(0, .int .i64 k), (1, .int .i64 e), (2, .int .i64 s), (3, .slice A n c)] _ hb
  simp only [execOp, ho, List.map_toArray, List.map_cons, List.map_nil, h0, h1, h2, h3]
  simp [hr, Result.andThen, frV]
set_option maxRecDepth 100000 in
theorem next21_any (ep : Int) (seq : Int) (hr : Rd w A m (bv l)) (hl : ∀ z ∈ l, z < 256) : Calls Tryz.prog 15 #[.int .i64 ep, .int .i64 seq, .slice A m cc] w (PutP w 2 ep seq l) := by
  have HR := Lib.hid (rput_all (c := cc) 2 ep seq hr hl)
  clear hr hl
  go_enter Tryz.func15, Tryz.ntmps15
  go_wp2_with (first
    | (with_reducible change wpList _ _ _ (⟨some 11, _, _, _, _, _⟩ :: _) _ _
       go_must (refine wpList_val rfl (exec_frameJ rfl rfl rfl rfl rfl) ?_)))
  refine HR.out.mono ?_
  rintro r w1 ⟨A', c', rfl, own1, m1⟩
  go_wp2
  go_ret2
  exact ⟨A', c', rfl, own1, m1⟩
end
end Go.Proofs.YtijmkbhbpbkkoaaGreat

/- JournalWrites' plain laws: a row filled, a row of records grown, a device's bytes. -/
namespace Go.Proofs.YtijmkbhbpbkkoaaGreat
open Go.RowKit

/-- a row of noughts, the first k filled -/
def fillN (N : Nat) (x : Int) (k : Nat) : List Value := List.replicate k (.int .u8 x) ++ List.replicate (N - k) (.int .u8 0)
theorem fillN_zero (N : Nat) (x : Int) : (fillN N x 0).toArray = Array.replicate N (.int .u8 0) := by simp [fillN]
theorem fillN_all (N : Nat) (x : Int) : fillN N x N = (List.replicate N x).map (Value.int .u8) := by simp [fillN]
theorem fillN_at {N : Nat} {x : Int} {k : Nat} (h : k < N) : (fillN N x k).toArray[k]? = some (.int .u8 0) := by
  rw [List.getElem?_toArray]
  unfold fillN
  rw [List.getElem?_append_right (by rw [List.length_replicate]; omega), List.length_replicate, Nat.sub_self, List.getElem?_replicate, if_pos (by omega)]
theorem fillN_set {N : Nat} {x : Int} {k : Nat} (h : k < N) : (fillN N x k).toArray.setIfInBounds k (.int .u8 x) = (fillN N x (k + 1)).toArray := by
  rw [List.setIfInBounds_toArray]
  unfold fillN
  obtain ⟨m, hm⟩ : ∃ m, N - k = m + 1 := ⟨N - k - 1, by omega⟩
  rw [hm, show N - (k + 1) = m from by omega, List.set_append_right _ _ (by rw [List.length_replicate]; omega), List.length_replicate, Nat.sub_self, List.replicate_succ, List.set_cons_zero, List.replicate_succ', List.append_assoc]
  rfl
theorem bv_one18 (l : List Nat) : ∀ v ∈ bv l, v.oneCell' = true := fun v hv => by
  unfold bv at hv
  obtain ⟨z, -, rfl⟩ := List.mem_map.1 hv
  rfl
theorem subA_18 {g N a : Nat} (h : N ≠ a) : subA (some ⟨g, 0, none⟩) N a 1 = some ⟨g, a, none⟩ := by
  unfold subA
  rw [if_neg h]
  simp [Addr.add]
  try (intro h; exact h.symm)
/-- where a part begins, whether it is the whole row or not -/
theorem splice_row (zs : List Int) (a : Nat) (own : List Nat) : splice (zs.map (Value.int .u8)).toArray a (bv own) = ((zs.take a ++ (natsn own ++ zs.drop (a + own.length))).map (Value.int .u8)).toArray := by
  unfold splice
  rw [List.map_append, List.map_append, bv_natsn, List.map_take, List.map_drop, bv_len]
  simp [List.append_assoc]
theorem want_zero (ep : Int) (J : Nat) : Array.replicate (512 * J) (Value.int .u8 0) = (bv (jrow ep.toNat 0 [] ++ List.replicate (512 * (J - jsec [])) 0)).toArray := by
  rw [jrow, jsec, List.nil_append, Nat.sub_zero]
  unfold bv
  simp
theorem want_step {ep : Int} {J : Nat} {done : List (List Nat)} {r : List Nat} (hfit : jsec done + fsec r.length ≤ J) :
    splice (bv (jrow ep.toNat 0 done ++ List.replicate (512 * (J - jsec done)) 0)).toArray (512 * jsec done) (bv (recB ep done.length r)) = (bv (jrow ep.toNat 0 (done ++ [r]) ++ List.replicate (512 * (J - jsec (done ++ [r]))) 0)).toArray := by
  unfold splice
  rw [bv_len, recB_len, jsec_snoc, jrow_snoc, Nat.zero_add]
  have h1 : (bv (jrow ep.toNat 0 done)).length = 512 * jsec done := by rw [bv_len, jrow_len]
  have e : ∀ a b : List Nat, bv (a ++ b) = bv a ++ bv b := fun a b => by unfold bv; rw [List.map_append]
  rw [e, e, e]
  show (List.take (512 * jsec done) (bv (jrow ep.toNat 0 done) ++ bv (List.replicate (512 * (J - jsec done)) 0)) ++ bv (recB ep done.length r) ++ List.drop (512 * jsec done + 512 * fsec r.length) (bv (jrow ep.toNat 0 done) ++ bv (List.replicate (512 * (J - jsec done)) 0))).toArray = _
  rw [List.take_left' h1, List.drop_append, h1, List.drop_of_length_le (by rw [h1]; omega), List.nil_append, show 512 * jsec done + 512 * fsec r.length - 512 * jsec done = 512 * fsec r.length from by omega]
  have e2 : List.drop (512 * fsec r.length) (bv (List.replicate (512 * (J - jsec done)) 0)) = bv (List.replicate (512 * (J - (jsec done + fsec r.length))) 0) := by
    unfold bv
    rw [← List.map_drop, List.drop_replicate, show 512 * (J - jsec done) - 512 * fsec r.length = 512 * (J - (jsec done + fsec r.length)) from by omega]
  rw [e2]
  rfl
theorem want_len {ep : Int} {J : Nat} {done : List (List Nat)} (hfit : jsec done ≤ J) : (bv (jrow ep.toNat 0 done ++ List.replicate (512 * (J - jsec done)) 0)).length = 512 * J := by rw [bv_len, jrow_half_len hfit]
/-- the numbers of a round in which the record fits -/
theorem jw_ok {J jd f p q nJ : Nat} (hp : p = 512 * jd) (hq : q = 512 * f) (hJ : nJ = 512 * J) (hfit : jd + f ≤ J) (hJ2 : J ≤ 64) (hf : 1 ≤ f) :
    decide (nJ - p < q) = false ∧ (q : Int) / 512 = (f : Int) ∧ wrap64 ((jd : Int) + (f : Int)) = ((jd + f : Nat) : Int) ∧ IntKind.i64.wrap ((jd : Int) + (f : Int)) = ((jd + f : Nat) : Int) ∧
    wrap64 ((J : Int) - ((jd : Int) + (f : Int))) = (J : Int) - ((jd : Int) + (f : Int)) ∧ IntKind.i64.wrap ((J : Int) - ((jd : Int) + (f : Int))) = (J : Int) - ((jd : Int) + (f : Int)) :=
  ⟨decide_eq_false (by omega), by omega, by rw [wrap64_id (by omega) (by omega)]; omega, by rw [IntKind.wrap_i64]; omega, wrap64_id (by omega) (by omega), by rw [IntKind.wrap_i64]; omega⟩
theorem jw_ok2 {J jd f p q nJ : Nat} (hp : p = 512 * jd) (hq : q = 512 * f) (hJ : nJ = 512 * J) (hfit : jd + f ≤ J) (hf : 1 ≤ f) : nJ ≠ p ∧ p ≤ nJ ∧ q = Nat.min q (nJ - p) ∧ jd ≤ J ∧ p + q * 1 ≤ 512 * J :=
  ⟨by omega, by omega, (Nat.min_eq_left (by omega)).symm, by omega, by omega⟩
theorem jw_full {J jd f p q nJ : Nat} (hp : p = 512 * jd) (hq : q = 512 * f) (hJ : nJ = 512 * J) (hfit : ¬ jd + f ≤ J) (hJ2 : J ≤ 64) (hj : jd ≤ J) :
    decide (nJ - p < q) = true ∧ wrap64 ((J : Int) - (jd : Int)) = (J : Int) - (jd : Int) ∧ IntKind.i64.wrap ((J : Int) - (jd : Int)) = (J : Int) - (jd : Int) :=
  ⟨decide_eq_true (by omega), wrap64_id (by omega) (by omega), by rw [IntKind.wrap_i64]; omega⟩
/-- a half made noughts -/
theorem jst_clear {D0 : Dk} {hf : Int} {J : Nat} (ep : Int) (hu : DUp D0) (hh : 0 ≤ hf) (hn : hf + J ≤ D0.n) : ∃ D1, bwrite D0 hf (List.replicate (512 * J) 0) = (0, D1) ∧ JSt D0 D1 hf J ep [] := by
  obtain ⟨D1, h1, h2, h3, h4⟩ := bwrite_up (D := D0) (a := hf) (bs := List.replicate (512 * J) 0) (k := J) hu hh hn (by rw [List.length_replicate])
  refine ⟨D1, h1, h2, h3, Nat.zero_le _, ?_, fun j hj => by rw [h4, if_neg (by omega)]⟩
  rw [rowsL_of (bs := List.replicate (512 * J) 0) J (fun i hi => by rw [h4, if_pos (by omega), show (hf + (i : Int) - hf).toNat = i from by omega])]
  rw [jrow, jsec, List.nil_append, Nat.sub_zero]
  unfold natsn
  rw [List.take_of_length_le (by rw [List.length_replicate]; exact Nat.le_refl _), List.map_replicate]
  rfl
theorem bytesN_rows (D : Dk) : ∀ n, bytesN D n = rowsL D 0 n
  | 0 => rfl
  | n + 1 => by rw [bytesN_succ, rowsL_succ, bytesN_rows D n, Int.zero_add]
/-- the device's bytes -/
theorem jst_bytes {zs : List Int} {N a J : Nat} {D : Dk} {ep : Int} {done : List (List Nat)} (h : JSt (ofD zs N N) D (a : Int) J ep done) (hz : zs.length = 512 * N) (hf : a + J ≤ N) :
    bytesN D N = zs.take (512 * a) ++ (natsn (jrow ep.toNat 0 done ++ List.replicate (512 * (J - jsec done)) 0) ++ zs.drop (512 * a + 512 * J)) := by
  obtain ⟨q, rfl⟩ : ∃ q, N = a + J + q := ⟨N - a - J, by omega⟩
  rw [bytesN_rows, rowsL_add, rowsL_add, Int.zero_add, h.row]
  rw [rowsL_congr (D := D) (D' := ofD zs (a + J + q) (a + J + q)) (a := 0) a (fun i hi => h.far _ (.inl (by omega)))]
  rw [rowsL_congr (D := D) (D' := ofD zs (a + J + q) (a + J + q)) (a := 0 + ((a + J : Nat) : Int)) q (fun i hi => h.far _ (.inr (by omega)))]
  rw [show (0 : Int) = ((0 : Nat) : Int) from rfl, ofD_rows (by omega), show ((0 : Nat) : Int) + ((a + J : Nat) : Int) = ((a + J : Nat) : Int) from by omega, ofD_rows (by omega), Nat.mul_zero, List.drop_zero, List.append_assoc, Nat.mul_add, List.take_of_length_le (l := List.drop (512 * a + 512 * J) zs) (by rw [List.length_drop]; omega)]
section
variable {w0 w w' : World} {c b ms mo mk jb g : Nat} {hf : Int} {J : Nat} {ep : Int} {done : List (List Nat)} {X : Nat → Prop} {t : Int}
/-- dev.Bytes, where a block of an elder one was written last -/
theorem jnow_bytes {zs : List Int} {N a : Nat} (h : JNow w0 w c b ms mo mk jb (ofD zs N N) (a : Int) J ep done X t) (hz : zs.length = 512 * N) (hf : a + J ≤ N) (hg : g < w0.heap.size) (hm : Mod (At g) w w') :
    Calls Tryz.prog 19 #[.pointer (some ⟨b, 0, none⟩)] w' fun e w2 => ∃ v, e = .returned v ∧ w2.ownsRow w'.heap.size 5 1 v (512 * N) ((zs.take (512 * a) ++ (natsn (jrow ep.toNat 0 done ++ List.replicate (512 * (J - jsec done)) 0) ++ zs.drop (512 * a + 512 * J))).map (Value.int .u8)) ∧ Mod Nn w' w2 := by
  obtain ⟨D, now, hits, misses, l, T, h1, h2, h3, h4, h5⟩ := h
  have hd : DiskAt w' b ms mo D := h1.at_.d.mod hm (fun k hk e => by have e : k = g := e; have := h1.fr k (.inr hk); omega)
  have hn : D.n.toNat = N := by rw [h3.n]; show ((N : Int)).toNat = N; exact Int.toNat_natCast N
  have hB := bytes_any hd
  rw [hn, jst_bytes h3 hz hf] at hB
  exact hB
end
end Go.Proofs.YtijmkbhbpbkkoaaGreat
