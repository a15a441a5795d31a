/- Steps for Kit25's law: operations by an equation or a contract, over an act that is known by what its operands hold. No program is named. -/
import Derived.Test.YtodnhbiomooknaaGreatKit25
import Derived.Test.YtodnhbiomooknaaGreatKitD
namespace Go.Proofs.YtodnhbiomooknaaGreat
open Go.RowKit

section
variable {P : Program} {Q : Exit → Act → World → Prop} {D : Said} {a b : Act} {w w1 : World} {o : Oper} {k m : Nat} {ops : Array Oper}
theorem Env.new {t : Tmp} {j : Nat} (E : Env ops m D a w o b w1) (hj : j < m) (hl : (o.looksAt ops).contains t = true) (hd : dstOf ops j = some t) : D.R j (b.eval (.tmp t)) w1 :=
  E.got j t hj (by simpa using hl) hd
theorem Env.kept {t : Tmp} (E : Env ops m D a w o b w1) (hl : (o.looksAt ops).contains t = true) (hd : (List.range ops.size).all (fun j => dstOf ops j != some t) = true) : b.eval (.tmp t) = a.eval (.tmp t) :=
  E.old t (by simpa using hl) (fun j h => by
    by_cases hj : j < ops.size
    · have := List.all_eq_true.1 hd j (List.mem_range.2 hj)
      rw [h] at this; simp at this
    · unfold dstOf at h
      rw [Array.getElem?_eq_none (by omega)] at h; cases h)
theorem Env.lt {t : Tmp} {j : Nat} (E : Env ops m D a w o b w1) (hj : j < m) (hl : (o.looksAt ops).contains t = true) (hd : dstOf ops j = some t) (ho : D.owner j = true) : ∀ g, (b.eval (.tmp t)).vBlk = some g → w.heap.size ≤ g ∧ g < w1.heap.size :=
  E.fresh j t hj (by simpa using hl) hd ho
/-- what a step tells -/
def StepP (D : Said) (ops : Array Oper) (k : Nat) (o : Oper) (b : Act) (w1 : World) (a' : Act) (w' : World) : Prop :=
  ∃ v, a' = b.put o.dst v ∧ D.R k v w' ∧ Mod (fun g => ∃ j t, D.eats k = some j ∧ dstOf ops j = some t ∧ (b.eval (.tmp t)).vBlk = some g) w1 w' ∧
    (D.owner k = true → ∀ g, v.vBlk = some g → g < w'.heap.size ∧ (w1.heap.size ≤ g ∨ ∃ j t, D.eats k = some j ∧ dstOf ops j = some t ∧ (b.eval (.tmp t)).vBlk = some g))
/-- it reads, or makes what it hands out -/
theorem inv_val {v : Value} {w' : World} (hrun : (execOp b.eval o).run P w1 = .ok (.value v) w') (hR : D.R k v w') (hm : Mod Nn w1 w') (ho : D.owner k = true → ∀ g, v.vBlk = some g → g < w'.heap.size ∧ w1.heap.size ≤ g) :
    o.wp P b w1 (StepP D ops k o b w1) Q := by
  unfold Oper.wp
  rw [hrun]
  exact ⟨v, rfl, hR, hm.nn, fun h g hg => ⟨(ho h g hg).1, .inl (ho h g hg).2⟩⟩
/-- it changes what it eats -/
theorem inv_eat {v : Value} {w' : World} {j : Nat} {t : Tmp} (he : D.eats k = some j) (hd : dstOf ops j = some t) (hrun : (execOp b.eval o).run P w1 = .ok (.value v) w') (hR : D.R k v w') (hm : Mod (fun g => (b.eval (.tmp t)).vBlk = some g) w1 w')
    (ho : ∀ g, v.vBlk = some g → g < w'.heap.size ∧ (w1.heap.size ≤ g ∨ (b.eval (.tmp t)).vBlk = some g)) :
    o.wp P b w1 (StepP D ops k o b w1) Q := by
  unfold Oper.wp
  rw [hrun]
  exact ⟨v, rfl, hR, hm.mono (fun g _ h => ⟨j, t, he, hd, h⟩), fun _ g hg => ⟨(ho g hg).1, (ho g hg).2.imp id (fun h => ⟨j, t, he, hd, h⟩)⟩⟩
theorem inv_call {f : FuncId} {args : Array Value} (hrun : (execOp b.eval o).run P w1 = .ok (.enter f args) w1)
    (hc : Calls P f args w1 fun e w' => ∃ v, e = .returned v ∧ D.R k v w' ∧ Mod Nn w1 w' ∧ (D.owner k = true → ∀ g, v.vBlk = some g → g < w'.heap.size ∧ w1.heap.size ≤ g)) :
    o.wp P b w1 (StepP D ops k o b w1) Q := by
  unfold Oper.wp
  rw [hrun]
  exact hc.mono fun e w' ⟨v, he, hR, hm, ho⟩ => by
    subst he
    exact ⟨v, rfl, hR, hm.nn, fun h g hg => ⟨(ho h g hg).1, .inl (ho h g hg).2⟩⟩
theorem exec_move (x : Operand) (ho : o.op = .move x) {v : Value} (hx : b.eval x = v) : (execOp b.eval o).run P w = .ok (.value v) w := by
  subst hx
  simp [execOp, ho, Result.andThen]
theorem exec_enter {f : FuncId} {xs : Array Operand} {ts : Array TypeId} (ho : o.op = .call { callee := .value (.func f), args := xs, argTypes := ts }) {vs : Array Value} (hx : xs.map b.eval = vs) {fn : Func} (hf : P.funcs[f]? = some fn) (hn : (fn.name == "runtime.NumGoroutine") = false) (hb : fn.body.isNone = false) :
    (execOp b.eval o).run P w = .ok (.enter f vs) w := by
  subst hx
  have hc : ∀ args w, (callFunc f args).run P w = .ok (.enter f args) w := fun args w => by
    have hn' : ¬ fn.name = "runtime.NumGoroutine" := by simpa using hn
    have hb' : ¬ fn.body = none := by intro h; rw [h] at hb; cases hb
    simp [callFunc, hf, hn', hb']
  simp [execOp, ho, resolve, invoke, Act.eval, Deferred.ofValue, hc, Result.andThen]
theorem exec_elem (t : TypeId) (x i : Operand) (ho : o.op = .indexAddr t x i) (e : TypeId) (size : Nat) (ht : P.underlying t = some (.slice e)) (hi : (P.info? e).map (·.size) = some size)
    {g off n c q : Nat} (hx : b.eval x = .slice (some ⟨g, off, none⟩) n c) (hq : b.eval i = .int .i64 (q : Int)) (hlt : q < n) :
    (execOp b.eval o).run P w = .ok (.value (.pointer (some ⟨g, off + q * size, none⟩))) w := by
  have he : P.elem t = e := by simp [Program.elem, ht]
  have ht' : P.underlying t = some (.slice (P.elem t)) := by rw [he]; exact ht
  obtain ⟨ie, hie, hs⟩ := Option.map_eq_some_iff.1 hi
  have hadd : (⟨g, off, none⟩ : Addr).add (q * size) = ⟨g, off + q * size, none⟩ := by unfold Addr.add; split <;> simp_all
  have h0 : (0 : Int) ≤ q ∧ (q : Int) < n := by omega
  simp only [execOp, ho, hx, hq]
  simp [run_indexAt_slice w t _ n c .i64 (q : Int) ht', h0.1, h0.2, he, sizeOf, typeInfo, hie, hs, hadd, Result.andThen, hlt]
end
end Go.Proofs.YtodnhbiomooknaaGreat
