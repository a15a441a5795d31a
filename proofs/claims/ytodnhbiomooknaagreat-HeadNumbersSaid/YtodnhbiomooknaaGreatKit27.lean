/- What Kit25's law says of a value, by kinds: a value told, a row that is the region's own, a new block. No program is named. -/
import Derived.Test.YtodnhbiomooknaaGreatKit26
namespace Go.Proofs.YtodnhbiomooknaaGreat
open Go.RowKit

inductive Kd where
  | val : Value → Kd
  | own : TypeId → Nat → Nat → List Value → Kd
  | blk : TypeId → Array Value → Kd
  | any : (Value → Prop) → Kd
def kdR (base : Nat) : Kd → Value → World → Prop
  | .val u, v, _ => v = u
  | .own e s n xs, v, w => w.ownsRow base e s v n xs
  | .blk t cs, v, w => ∃ g, v = .pointer (some ⟨g, 0, none⟩) ∧ base ≤ g ∧ Blk w g t cs
  | .any p, v, _ => p v
def kdOwner : Kd → Bool
  | .own .. => true
  | .blk .. => true
  | _ => false
def kdSaid (base : Nat) (ks : List Kd) (eats : Nat → Option Nat) : Said :=
  ⟨fun k v w => match ks[k]? with | some K => kdR base K v w | none => True, eats, fun k => match ks[k]? with | some K => kdOwner K | none => false⟩
theorem vBlk_slice {A : Option Addr} {n c : Nat} : (Value.slice A n c).vBlk = (Value.slice A n c).ownBlock := by cases A <;> rfl
theorem vBlk_own {v : Value} {w : World} {base s n : Nat} {e : TypeId} {xs : List Value} (h : w.ownsRow base e s v n xs) : v.vBlk = v.ownBlock := by
  obtain ⟨A, c, rfl, _, _⟩ := own_form h
  exact vBlk_slice
theorem own_below {v : Value} {w : World} {base s n : Nat} {e : TypeId} {xs : List Value} (h : w.ownsRow base e s v n xs) {g : Nat} (hg : v.ownBlock = some g) : g < w.heap.size := by
  obtain ⟨A, c, rfl, _, hA⟩ := own_form h
  exact (hA g (own_of hg)).2
theorem kd_own {base : Nat} {K : Kd} {v : Value} {S : Nat → Prop} {w w' : World} (ho : kdOwner K = true) (h : kdR base K v w) (hm : Mod S w w') (hS : ∀ g, v.vBlk = some g → ¬ S g) : kdR base K v w' := by
  cases K with
  | val u => cases ho
  | any p => cases ho
  | own e s n xs => exact own_mod h hm (fun g hg => hS g ((vBlk_own h).trans hg))
  | blk t cs =>
    obtain ⟨g, rfl, hg, hb⟩ := h
    exact ⟨g, rfl, hg, hb.mod hm (hS g rfl)⟩
theorem kd_non {base : Nat} {K : Kd} {v : Value} {S : Nat → Prop} {w w' : World} (ho : kdOwner K = false) (h : kdR base K v w) (_ : Mod S w w') : kdR base K v w' := by
  cases K with
  | val u => exact h
  | any p => exact h
  | own e s n xs => cases ho
  | blk t cs => cases ho
section
variable {P : Program} {Q : Exit → Act → World → Prop} {a b : Act} {w w1 : World} {o : Oper} {k m : Nat} {ops : Array Oper} {base : Nat} {ks : List Kd} {eats : Nat → Option Nat}
theorem wp_region_kinds {id : Nat} {l : List Oper} (ks : List Kd) (eats : Nat → Option Nat) (m : Nat) (ps : List (Nat × Bool)) (hm : P.follows .mixedOrders = true)
    (hB : formB .any l.toArray m eats (fun k => match ks[k]? with | some K => kdOwner K | none => false) = true) (hsz : ((List.range m).all fun k => match dstOf l.toArray k with | some d => decide (d < a.tmps.size) | none => true) = true)
    (hp : (Region.noSelect l.toArray && planC .any l.toArray ps (doneL l.length m) && (ps.length == l.length - m)) = true)
    (hstep : ∀ k o, k < m → l[k]? = some o → ∀ b w1, Env l.toArray m (kdSaid w.heap.size ks eats) a w o b w1 → o.wp P b w1 (StepP (kdSaid w.heap.size ks eats) l.toArray k o b w1) (NoP Q))
    (hend : ∀ vs w', Mod Nn w w' → (∀ k, k < m → (List.range m).all (fun i => eats i != some k) = true → (kdSaid w.heap.size ks eats).R k (vs k) w') → wpPlC P l.toArray (NoP Q) (fun _ => True) ps (fillA l.toArray vs a (List.range m).reverse) w') :
    (Code.region id l.toArray true).wp P Q a w := by
  refine wp_region_inv (kdSaid w.heap.size ks eats) m ps hm hB hsz hp (fun k v S w1 w2 ho hR hm' hS => ?_) (fun k v w1 w2 ho hR hm' => ?_) hstep (fun vs w' hm' h => hend vs w' hm' (fun k hk he => h k hk (fun i hi e => ?_)))
  · unfold kdSaid at ho hR ⊢
    simp only at ho hR ⊢
    cases hk : ks[k]? with
    | none => trivial
    | some K => rw [hk] at ho hR; exact kd_own ho hR hm' hS
  · unfold kdSaid at ho hR ⊢
    simp only at ho hR ⊢
    cases hk : ks[k]? with
    | none => trivial
    | some K => rw [hk] at ho hR; exact kd_non ho hR hm'
  · have := List.all_eq_true.1 he i (List.mem_range.2 hi)
    change eats i = some k at e
    rw [e] at this; simp at this
theorem fillA_nil (vs : Nat → Value) : fillA ops vs a [] = a := rfl
theorem plc_norm {S : World → Prop} {ps : List (Nat × Bool)} (h : ∀ K : Act → Prop, (∀ a', wpPlC P ops Q S ps a' w → K a') → K a) : wpPlC P ops Q S ps a w := h (fun a' => wpPlC P ops Q S ps a' w) (fun _ h => h)
/-- a value told -/
theorem ks_val {v u : Value} (hk : ks[k]? = some (.val u)) (hrun : (execOp b.eval o).run P w1 = .ok (.value v) w1) (hv : v = u) : o.wp P b w1 (StepP (kdSaid base ks eats) ops k o b w1) Q := by
  refine inv_val hrun (show (match ks[k]? with | some K => kdR base K v w1 | none => True) from by rw [hk]; exact hv) (Mod.refl _ _) (fun h => ?_)
  change (match ks[k]? with | some K => kdOwner K | none => false) = true at h
  rw [hk] at h; cases h
/-- a row of its own, out of what makes it -/
theorem own_new {e : TypeId} {s n : Nat} {xs : List Value} {wx : World} {g : Nat} (hb : base ≤ g) (h : Blk wx g e xs.toArray) (hx : xs.length = n * s) (hn : n ≤ maxLen) : wx.ownsRow base e s (.slice (some ⟨g, 0, none⟩) n n) n xs :=
  ⟨hx, .inr ⟨g, n, xs.toArray, rfl, hb, h, Nat.le_refl _, hn, by simpa using hx, by rw [← hx]; simp⟩⟩
theorem ks_make {v : Value} {w' : World} {e : TypeId} {s n : Nat} {xs : List Value} (hk : ks[k]? = some (.own e s n xs)) (hrun : (execOp b.eval o).run P w1 = .ok (.value v) w') (hv : w'.ownsRow w1.heap.size e s v n xs) (hm : Mod Nn w1 w') (hb : base ≤ w1.heap.size) :
    o.wp P b w1 (StepP (kdSaid base ks eats) ops k o b w1) Q := by
  refine inv_val hrun (show (match ks[k]? with | some K => kdR base K v w' | none => True) from by rw [hk]; exact own_base hv (fun g hg => by have := own_ge hv g hg; omega)) hm (fun _ g hg => ?_)
  have hg' : v.ownBlock = some g := (vBlk_own hv).symm.trans hg
  exact ⟨own_below hv hg', own_ge hv g hg'⟩
theorem ks_blk {w' : World} {t : TypeId} {cs : Array Value} (hk : ks[k]? = some (.blk t cs)) (hrun : (execOp b.eval o).run P w1 = .ok (.value (.pointer (some ⟨w1.heap.size, 0, none⟩))) w') (hv : Blk w' w1.heap.size t cs) (hm : Mod Nn w1 w') (hb : base ≤ w1.heap.size) :
    o.wp P b w1 (StepP (kdSaid base ks eats) ops k o b w1) Q := by
  refine inv_val hrun (show (match ks[k]? with | some K => kdR base K _ w' | none => True) from by rw [hk]; exact ⟨_, rfl, hb, hv⟩) hm (fun _ g hg => ?_)
  injection hg with hg; subst hg
  exact ⟨hv.lt, Nat.le_refl _⟩
/-- a call that tells a row of its own -/
theorem ks_call {e : TypeId} {s n : Nat} {xs : List Value} (hk : ks[k]? = some (.own e s n xs)) {f : FuncId} {args : Array Value} (hrun : (execOp b.eval o).run P w1 = .ok (.enter f args) w1)
    (hc : Calls P f args w1 fun r w' => ∃ v, r = .returned v ∧ w'.ownsRow w1.heap.size e s v n xs ∧ Mod Nn w1 w') (hb : base ≤ w1.heap.size) : o.wp P b w1 (StepP (kdSaid base ks eats) ops k o b w1) Q := by
  refine inv_call hrun (hc.mono fun r w' ⟨v, he, ho, hm⟩ => ⟨v, he, ?_, hm, fun _ g hg => ?_⟩)
  · show (match ks[k]? with | some K => kdR base K v w' | none => True)
    rw [hk]; exact own_base ho (fun g hg => by have := own_ge ho g hg; omega)
  · have hg' : v.ownBlock = some g := (vBlk_own ho).symm.trans hg
    exact ⟨own_below ho hg', own_ge ho g hg'⟩
/-- a call that tells some value -/
theorem ks_say {p : Value → Prop} (hk : ks[k]? = some (.any p)) {f : FuncId} {args : Array Value} (hrun : (execOp b.eval o).run P w1 = .ok (.enter f args) w1)
    (hc : Calls P f args w1 fun r w' => ∃ v, r = .returned v ∧ p v ∧ Mod Nn w1 w') : o.wp P b w1 (StepP (kdSaid base ks eats) ops k o b w1) Q := by
  refine inv_call hrun (hc.mono fun r w' ⟨v, he, ho, hm⟩ => ⟨v, he, ?_, hm, fun h => ?_⟩)
  · show (match ks[k]? with | some K => kdR base K v w' | none => True)
    rw [hk]; exact ho
  · change (match ks[k]? with | some K => kdOwner K | none => false) = true at h
    rw [hk] at h; cases h
/-- append to a row of its own, which it eats -/
theorem ks_append {j : Nat} {tj : Tmp} (he : eats k = some j) (hd : dstOf ops j = some tj) (t : TypeId) (s x : Operand) (ho : o.op = .call { callee := .builtin .append, args := #[s, x], argTypes := #[t, t] }) (hsj : s = .tmp tj)
    (e : TypeId) (z : Value) (size bytes : Nat) (ht : P.underlying t = some (.slice e)) (hi : (P.info? e).map (fun i => (i.zero, i.size, i.bytes)) = some (some z, size, bytes)) (hzs : z.cells.size = size) (hsz : 0 < size)
    {n : Nat} {xs : List Value} (hown : w1.ownsRow base e size (b.eval (.tmp tj)) n xs) {A : Option Addr} {q c : Nat} {news : List Value} (hx : b.eval x = .slice A q c) (hr : RdC w1 A q size news) (h1 : ∀ u ∈ news, u.oneCell' = true)
    (hbytes : (n + q) * bytes ≤ 140737488355328) (h63 : n + q ≤ 140737488355328) (hb : base ≤ w1.heap.size) (hk : ks[k]? = some (.own e size (n + q) (xs ++ news))) : o.wp P b w1 (StepP (kdSaid base ks eats) ops k o b w1) Q := by
  subst hsj
  obtain ⟨v', w', hrun, h2, h3, h4⟩ := exec_append (P := P) t (.tmp tj) x ho base e z size bytes ht hi hzs hsz rfl hown hx hr h1 hbytes h63 hb
  have hv' := vBlk_own h2
  have hvj := vBlk_own hown
  refine inv_eat (j := j) (t := tj) he hd hrun (show (match ks[k]? with | some K => kdR base K v' w' | none => True) from by rw [hk]; exact h2)
    ((Mod.refl _ w1).grown h3 (fun g hg => .inr (hvj.trans hg))) (fun g hg => ?_)
  have hg' : v'.ownBlock = some g := hv'.symm.trans hg
  refine ⟨own_below h2 hg', ?_⟩
  rcases h4 with h4 | h4
  · exact .inr (hvj.trans (h4.symm.trans hg'))
  · rw [hg'] at h4; injection h4 with h4; exact .inl (by omega)
end
end Go.Proofs.YtodnhbiomooknaaGreat
