/- Own lemmas of several kinds, put together: Jn0, Kit39, Jn5, Jn6. -/
import Derived.Test.YtijmkbhbpbkkoaaGreatFr1
import Derived.Test.YtijmkbhbpbkkoaaGreatKitB
import Derived.RangeFuncSeq
import Derived.OrdersIn
import Derived.Test.YtijmkbhbpbkkoaaGreatJnA
import Derived.Test.YtijmkbhbpbkkoaaGreatBlA
import Derived.Test.YtijmkbhbpbkkoaaGreatFrN
import Derived.Sort.CutIn
/- The journal (layer 21) in plain words: the records that bytes begin with, and those that were written. No program is named. -/
namespace Go.Proofs.YtijmkbhbpbkkoaaGreat

/-- a record of an epoch, the s-th -/
def RecAt (l : List Nat) (ep : Int) (s : Nat) : Prop := Holds l ∧ (frOf l).kind = 2 ∧ ((frOf l).epoch : Int) = ep ∧ (frOf l).seq = s
/-- k records take n sectors, and are R -/
def IsChain (l : List Nat) (ep : Int) : Nat → Nat → List (List Nat) → Prop
  | 0, n, R => n = 0 ∧ R = []
  | k + 1, n, R => ∃ n0 R0, IsChain l ep k n0 R0 ∧ RecAt (l.drop (512 * n0)) ep k ∧ n = n0 + fsec (frLong (l.drop (512 * n0))) ∧ R = R0 ++ [(frOf (l.drop (512 * n0))).data]
/-- these are all -/
def AllRecs (l : List Nat) (ep : Int) (n : Nat) (R : List (List Nat)) : Prop := IsChain l ep R.length n R ∧ ¬ RecAt (l.drop (512 * n)) ep R.length
section
variable {l : List Nat} {ep : Int}
theorem IsChain.uniq : ∀ {k n n' : Nat} {R R' : List (List Nat)}, IsChain l ep k n R → IsChain l ep k n' R' → n = n' ∧ R = R'
  | 0, _, _, _, _, h, h' => ⟨h.1.trans h'.1.symm, h.2.trans h'.2.symm⟩
  | k + 1, _, _, _, _, ⟨n0, R0, h, _, e1, e2⟩, ⟨n1, R1, h', _, e3, e4⟩ => by
    obtain ⟨rfl, rfl⟩ := h.uniq h'
    exact ⟨e1.trans e3.symm, e2.trans e4.symm⟩
theorem IsChain.len : ∀ {k n : Nat} {R : List (List Nat)}, IsChain l ep k n R → R.length = k
  | 0, _, _, h => by rw [h.2]; rfl
  | k + 1, _, _, ⟨n0, R0, h, _, _, e⟩ => by rw [e, List.length_append, h.len]; rfl
theorem IsChain.fits : ∀ {k n : Nat} {R : List (List Nat)}, IsChain l ep k n R → 512 * n ≤ l.length
  | 0, _, _, h => by rw [h.1]; omega
  | k + 1, _, _, ⟨n0, R0, h, hr, e, _⟩ => by
    have h1 := h.fits
    have h2 := hr.1.2.2.2.2.1
    rw [List.length_drop] at h2
    rw [e]; omega
theorem fsec_pos (n : Nat) : 1 ≤ fsec n := by unfold fsec; omega
theorem IsChain.le : ∀ {k n : Nat} {R : List (List Nat)}, IsChain l ep k n R → k ≤ n
  | 0, _, _, _ => Nat.zero_le _
  | k + 1, _, _, ⟨n0, R0, h, hr, e, _⟩ => by
    have h1 := h.le
    have h2 := fsec_pos (frLong (l.drop (512 * n0)))
    rw [e]; omega
theorem IsChain.big : ∀ {k n : Nat} {R : List (List Nat)}, IsChain l ep k n R → ∀ r ∈ R, r.length ≤ 32768
  | 0, _, _, h, r, hr => by rw [h.2] at hr; cases hr
  | k + 1, _, _, ⟨n0, R0, h, hr, _, e⟩, r, hm => by
    rw [e] at hm
    rcases List.mem_append.1 hm with hm | hm
    · exact h.big r hm
    · rw [List.mem_singleton.1 hm]
      have := hr.1.2.2.2.1
      show ((_ : List Nat).take _).length ≤ _
      rw [List.length_take]
      unfold frLong at this
      omega
theorem IsChain.lt (hl : ∀ z ∈ l, z < 256) : ∀ {k n : Nat} {R : List (List Nat)}, IsChain l ep k n R → ∀ r ∈ R, ∀ z ∈ r, z < 256
  | 0, _, _, h, r, hr => by rw [h.2] at hr; cases hr
  | k + 1, _, _, ⟨n0, R0, h, hr, _, e⟩, r, hm => by
    rw [e] at hm
    rcases List.mem_append.1 hm with hm | hm
    · exact h.lt hl r hm
    · rw [List.mem_singleton.1 hm]
      intro z hz
      exact hl z (List.mem_of_mem_drop (List.mem_of_mem_drop (List.mem_of_mem_take hz)))
theorem IsChain.before {j : Nat} : ∀ {k n : Nat} {R : List (List Nat)}, IsChain l ep k n R → j < k → ∃ n0 R0, IsChain l ep j n0 R0 ∧ RecAt (l.drop (512 * n0)) ep j
  | 0, _, _, _, h => by omega
  | k + 1, _, _, ⟨n0, R0, h, hr, _, _⟩, hj => by
    by_cases e : j = k
    · subst e; exact ⟨n0, R0, h, hr⟩
    · exact h.before (by omega)
theorem AllRecs.uniq {n n' : Nat} {R R' : List (List Nat)} (h : AllRecs l ep n R) (h' : AllRecs l ep n' R') : n = n' ∧ R = R' := by
  rcases Nat.lt_trichotomy R.length R'.length with hc | hc | hc
  · obtain ⟨n0, R0, h0, hr⟩ := h'.1.before hc
    obtain ⟨rfl, -⟩ := h0.uniq h.1
    exact absurd hr h.2
  · have h2 := h'.1
    rw [← hc] at h2
    exact h.1.uniq h2
  · obtain ⟨n0, R0, h0, hr⟩ := h.1.before hc
    obtain ⟨rfl, -⟩ := h0.uniq h'.1
    exact absurd hr h'.2
end
/-- records as they are written, from the s-th on -/
def jrow (ep s : Nat) : List (List Nat) → List Nat
  | [] => []
  | D :: r => (Fr.mk 2 ep s D).bytes ++ jrow ep (s + 1) r
/-- their sectors -/
def jsec : List (List Nat) → Nat
  | [] => 0
  | D :: r => fsec D.length + jsec r
theorem jrow_len (ep : Nat) : ∀ (R : List (List Nat)) (s : Nat), (jrow ep s R).length = 512 * jsec R
  | [], _ => rfl
  | D :: r, s => by
    rw [jrow, jsec, List.length_append, jrow_len ep r, Fr.bytes_len]
    show 512 * fsec D.length + _ = _
    omega
theorem jrow_snoc (ep : Nat) (D : List Nat) : ∀ (R : List (List Nat)) (s : Nat), jrow ep s (R ++ [D]) = jrow ep s R ++ (Fr.mk 2 ep (s + R.length) D).bytes
  | [], s => by simp [jrow]
  | E :: r, s => by
    rw [List.cons_append, jrow, jrow_snoc ep D r, jrow, List.append_assoc, List.length_cons, show s + 1 + r.length = s + (r.length + 1) from by omega]
theorem jsec_snoc (D : List Nat) : ∀ (R : List (List Nat)), jsec (R ++ [D]) = jsec R + fsec D.length
  | [] => by simp [jsec]
  | E :: r => by rw [List.cons_append, jsec, jsec_snoc D r, jsec]; omega
theorem jrow_lt (ep : Nat) : ∀ (R : List (List Nat)) (s : Nat), (∀ r ∈ R, ∀ z ∈ r, z < 256) → ∀ z ∈ jrow ep s R, z < 256
  | [], _, _, z, hz => by cases hz
  | D :: r, s, h, z, hz => by
    rcases List.mem_append.1 hz with hz | hz
    · exact Fr.bytes_lt _ (h D (by simp)) z hz
    · exact jrow_lt ep r (s + 1) (fun q hq => h q (by simp [hq])) z hz
theorem jsec_ge : ∀ (R : List (List Nat)), R.length ≤ jsec R
  | [] => Nat.le_refl _
  | D :: r => by have := jsec_ge r; have := fsec_pos D.length; rw [jsec, List.length_cons]; omega
/-- what was written is read, whatever stands behind -/
theorem jrow_chain (ep : Nat) (hep : ep ≤ 1099511627776) (M : List Nat) : ∀ (n : Nat) (R : List (List Nat)), R.length = n → n ≤ 1099511627776 → (∀ r ∈ R, r.length ≤ 32768) → ∀ M, IsChain (jrow ep 0 R ++ M) ep n (jsec R) R
  | 0, R, h, _, _, M => by rw [List.eq_nil_of_length_eq_zero h]; exact ⟨rfl, rfl⟩
  | n + 1, R, h, hn, hb, M => by
    obtain ⟨Q, D, rfl⟩ : ∃ Q D, R = Q ++ [D] := ⟨R.dropLast, R.getLast (by intro e; rw [e] at h; cases h), (List.dropLast_concat_getLast _).symm⟩
    have hq : Q.length = n := by simpa using h
    have h1 := jrow_chain ep hep M n Q hq (by omega) (fun r hr => hb r (by simp [hr])) ((Fr.mk 2 ep n D).bytes ++ M)
    have e : jrow ep 0 (Q ++ [D]) ++ M = jrow ep 0 Q ++ ((Fr.mk 2 ep n D).bytes ++ M) := by
      rw [jrow_snoc, List.append_assoc, hq, Nat.zero_add]
    have ok : (Fr.mk 2 ep n D).ok := ⟨by show (2 : Nat) ≤ 255; omega, hep, by show n ≤ _; omega, hb D (by simp)⟩
    have hd : (jrow ep 0 Q ++ ((Fr.mk 2 ep n D).bytes ++ M)).drop (512 * jsec Q) = (Fr.mk 2 ep n D).bytes ++ M := by
      rw [← jrow_len ep Q 0, List.drop_left]
    obtain ⟨g1, g2⟩ := Fr.got _ ok M
    rw [e]
    refine ⟨jsec Q, Q, h1, ?_, ?_, ?_⟩
    · rw [hd]
      exact ⟨Fr.holds _ ok M, by rw [g2], by rw [g2], by rw [g2]⟩
    · rw [hd, g1, jsec_snoc]
    · rw [hd, g2]
/-- noughts are no frame -/
theorem zeros_not (n : Nat) : ¬ Holds (List.replicate n 0) := by
  intro h
  have h6 := h.2.2.2.2.2
  have h1 := h.1
  rw [List.length_replicate] at h1
  have e := congrArg (fun x : List Nat => x[0]?) h6
  have hp := fsec_pos (frLong (List.replicate n 0))
  simp only [List.take_replicate] at e
  rw [List.getElem?_replicate, if_pos (by omega)] at e
  have : (frOf (List.replicate n 0)).bytes[0]? = some 112 := rfl
  rw [this] at e
  cases e
theorem jrow_all (ep : Nat) (hep : ep ≤ 1099511627776) (R : List (List Nat)) (hn : R.length ≤ 1099511627776) (hb : ∀ r ∈ R, r.length ≤ 32768) (m : Nat) : AllRecs (jrow ep 0 R ++ List.replicate m 0) ep (jsec R) R := by
  refine ⟨jrow_chain ep hep [] R.length R rfl hn hb _, fun h => ?_⟩
  rw [← jrow_len ep R 0, List.drop_left] at h
  exact zeros_not m h.1
end Go.Proofs.YtijmkbhbpbkkoaaGreat

/- A region that draws its order and calls yield (inside the wide fence), by a plan: what is read, is read ahead of the call. No program is named. -/
namespace Go.Proofs.YtijmkbhbpbkkoaaGreat
open Go.RowKit

section
variable {n : Nat} {P : Program} {ops : Array Oper} {Q : Exit → Act → World → Prop} {md : Region.Mode} {S : World → Prop} {c : Nat}
theorem yieldsIf_wpOpW {i : Nat} {o : Oper} {v : Value} {a : Act} (hi : ops[i]? = some o) (hy : YieldsIf P ops S o v a) {K : Act → World → Prop} {w : World} (hS : S w) (h : K (a.put o.dst v) w) : wpOpIn Fence.wide n P ops Q i K a w := by
  unfold wpOpIn
  simp only [hi]
  have hro : Fence.wide.round = none := rfl
  rcases hy with ⟨hw, hv⟩ | ⟨hw, rfl⟩
  · simp only [hw, if_true, Oper.wpIn, hro, Oper.semAt_none, hv w hS, Oper.uponIn]; exact ⟨fun _ _ => trivial, h⟩
  · simp only [hw, Bool.false_eq_true, if_false]; exact ⟨fun _ _ => trivial, h⟩
theorem wpOpW_putIf {j : Nat} {oi oj : Oper} {v : Value} (hj : ops[j]? = some oj) (hap : oi.apart ops oj = true)
    (hsi : ∀ cs b, oi.op ≠ .select cs b) (hsj : ∀ cs b, oj.op ≠ .select cs b)
    (hQ : ∀ c a w, Q (.panic c) (a.put oi.dst v) w → Q (.panic c) a w) {K : Act → World → Prop} {a : Act} {w : World}
    (hy : YieldsIf P ops S oi v a) (h : wpOpIn Fence.wide n P ops Q j K (a.put oi.dst v) w) :
    wpOpIn Fence.wide n P ops Q j (fun a' w' => YieldsIf P ops S oi v a' ∧ K (a'.put oi.dst v) w') a w := by
  obtain ⟨h1, h2, h3⟩ := Oper.apart_spec hap
  have hro : Fence.wide.round = none := rfl
  have keep : ∀ (a : Act), YieldsIf P ops S oi v a → ∀ u, YieldsIf P ops S oi v (a.put oj.dst u) := fun a hy u =>
    hy.of_same (execOp_put oi hsi a oj.dst u h3) (wanted_put oi a oj.dst u h3)
  have keepD : ∀ d, YieldsIf P ops S oi v { a with defers := d :: a.defers } := fun d => hy.of_same rfl rfl
  unfold wpOpIn at *
  simp only [hj] at *
  rw [wanted_put oj a oi.dst v h1] at h
  split
  · rename_i hw
    simp only [hw, if_true] at h
    unfold Oper.wpIn at *
    refine ⟨fun _ _ => trivial, ?_⟩
    have h := h.2
    rw [hro, Oper.semAt_none, execOp_put oj hsj a oi.dst v h1] at h
    rw [hro, Oper.semAt_none]
    generalize (execOp a.eval oj).run P w = r at *
    cases r with
    | ok x w' =>
      cases x <;> simp only [Oper.uponIn] at h ⊢
      case value u => exact ⟨keep a hy u, by rw [← Act.put_comm a v u h2]; exact h⟩
      case skip => exact ⟨keep a hy _, by rw [← Act.put_comm a v undef h2]; exact h⟩
      case defer d =>
        refine ⟨keep _ (keepD d) _, ?_⟩
        rw [← Act.put_comm _ v undef h2, ← Act.put_defers]
        exact h
      case enter f args =>
        refine ⟨h.1, CallsIn.mono h.2 fun e w'' he => ?_⟩
        cases e with
        | returned u => exact ⟨keep a hy u, by rw [← Act.put_comm a v u h2]; exact he⟩
        | panicked c => exact hQ _ _ _ he
        | outgrown => exact he
      case row row args => exact ⟨h.1, RowsIn.mono h.2 fun u w'' he => ⟨keep a hy u, by rw [← Act.put_comm a v u h2]; exact he⟩⟩
      case round l f tmps assign body =>
        refine ⟨h.1, RoundIn.mono h.2 fun e w'' he => ?_⟩
        cases e with
        | returned u => exact ⟨keep a hy u, by rw [← Act.put_comm a v u h2]; exact he⟩
        | panicked c => exact hQ _ _ _ he
        | outgrown => exact he
    | halt x w' =>
      cases x <;> simp only [Oper.uponIn] at h ⊢
      case panic u => exact hQ _ _ _ h
  · rename_i hw
    simp only [hw] at h
    exact ⟨fun _ _ => trivial, keep a hy _, by rw [← Act.put_comm a v undef h2]; exact h.2⟩

def wpTW (n : Nat) (P : Program) (md : Region.Mode) (ops : Array Oper) (Q : Exit → Act → World → Prop) (S : World → Prop) (c : Nat) : Nat → Array Bool → Act → World → Prop
  | 0, L, a, w => Region.ready md ops L = [] ∧ Q .normal a w
  | m + 1, L, a, w => (Region.ready md ops L = [] → Q .normal a w) ∧
    ∀ i ∈ Region.ready md ops L, wpOpIn Fence.wide n P ops Q i (fun a' w' => ((L.setIfInBounds i true).getD c false = false → S w') ∧ wpTW n P md ops Q S c m (L.setIfInBounds i true) a' w') a w
theorem wpAny_of_TW : ∀ (m : Nat) (L : Array Bool) (a : Act) (w : World), wpTW n P md ops Q S c m L a w → wpAnyIn Fence.wide n P md ops Q m L a w
  | 0, _, _, _, h => h
  | m + 1, L, a, w, h => ⟨h.1, fun i hi => wpOpIn_mono (fun a' w' h' => wpAny_of_TW m _ a' w' h'.2) (h.2 i hi)⟩

theorem wpTW_first {T : World → Prop} {i : Nat} {oi : Oper} {v : Value} (hi : ops[i]? = some oi) (hsel : ∀ (j : Nat) (o : Oper) cs b, ops[j]? = some o → o.op ≠ .select cs b)
    (hQ : ∀ c a w, Q (.panic c) (a.put oi.dst v) w → Q (.panic c) a w) (hic : i ≠ c)
    (hT : ∀ (L : Array Bool) (w : World), Closed md ops L → L.getD i true = false → (L.getD c false = false → S w) → T w) :
    ∀ (m : Nat) (L : Array Bool) (a : Act) (w : World), (∀ j oj, ops[j]? = some oj → j ≠ i → L.getD j true = false → (∀ e ∈ oj.after, Region.binds md e = true → e.on ≠ i) → oi.apart ops oj = true) →
      i ∈ Region.ready md ops L → Closed md ops L → YieldsIf P ops T oi v a → (L.getD c false = false → S w) →
      wpTW n P md ops Q S c m (L.setIfInBounds i true) (a.put oi.dst v) w → wpTW n P md ops Q S c (m + 1) L a w := by
  intro m
  induction m with
  | zero =>
    intro L a w _ hr hC hy hS H
    refine ⟨fun h => (by rw [h] at hr; cases hr), fun j hj => ?_⟩
    by_cases hji : j = i
    · subst hji
      exact yieldsIf_wpOpW hi hy (hT L w hC (mem_ready.1 hr).1 hS) ⟨fun h => hS (by rw [← getD_set_ne false hic]; exact h), H⟩
    · have := ready_mono hj hji
      rw [H.1] at this
      cases this
  | succ m ih =>
    intro L a w hfree hr hC hy hS H
    refine ⟨fun h => (by rw [h] at hr; cases hr), fun j hj => ?_⟩
    by_cases hji : j = i
    · subst hji
      exact yieldsIf_wpOpW hi hy (hT L w hC (mem_ready.1 hr).1 hS) ⟨fun h => hS (by rw [← getD_set_ne false hic]; exact h), H⟩
    · have h1 := H.2 j (ready_mono hj hji)
      obtain ⟨hjun, oj, hoj, hall⟩ := mem_ready.1 hj
      have hiun := getD_two (mem_ready.1 hr).1
      have hnot : ∀ e ∈ oj.after, Region.binds md e = true → e.on ≠ i := fun e he hb heq => by
        have h2 := hall e he hb
        rw [heq, hiun] at h2
        cases h2
      have h2 := wpOpW_putIf hoj (hfree j oj hoj hji hjun hnot) (fun cs b => hsel i oi cs b hi) (fun cs b => hsel j oj cs b hoj) hQ hy h1
      have hfree' : ∀ k ok, ops[k]? = some ok → k ≠ i → (L.setIfInBounds j true).getD k true = false → (∀ e ∈ ok.after, Region.binds md e = true → e.on ≠ i) → oi.apart ops ok = true := fun k ok hk hki hun hno => by
        refine hfree k ok hk hki ?_ hno
        by_cases hjk : j = k
        · subst hjk; exact hjun
        · rw [getD_set_ne true hjk] at hun; exact hun
      have hcomm : (L.setIfInBounds i true).setIfInBounds j true = (L.setIfInBounds j true).setIfInBounds i true := (Array.setIfInBounds_comm _ _ (Ne.symm hji))
      refine wpOpIn_mono (fun a' w' h3 => ?_) h2
      have hS' : (L.setIfInBounds j true).getD c false = false → S w' := fun h => h3.2.1 (by rw [hcomm, getD_set_ne false hic]; exact h)
      refine ⟨hS', ih (L.setIfInBounds j true) a' w' hfree' (ready_mono hr (Ne.symm hji)) (hC.set hj) h3.1 hS' ?_⟩
      rw [← hcomm]
      exact h3.2.2

def wpPTW (n : Nat) (P : Program) (ops : Array Oper) (Q : Exit → Act → World → Prop) (S : World → Prop) (c : Nat) : List (Nat × Nat) → Bool → Act → World → Prop
  | [], _, a, w => Q .normal a w
  | (k, 0) :: ps, d, a, w => ∃ o, ops[k]? = some o ∧ ∃ v, YieldsIf P ops (fun _ => True) o v a ∧ wpPTW n P ops Q S c ps d (a.put o.dst v) w
  | (k, 1) :: ps, d, a, w => ∃ o, ops[k]? = some o ∧ ∃ v, YieldsIf P ops S o v a ∧ wpPTW n P ops Q S c ps d (a.put o.dst v) w
  | (k, _ + 2) :: ps, d, a, w => ∃ o, ops[k]? = some o ∧ Region.wanted o (yielded ops a.tmps) = true ∧ o.wpIn Fence.wide n P a w (fun a' w' => ((d || k == c) = false → S w') ∧ wpPTW n P ops Q S c ps (d || k == c) a' w') Q

theorem wpTW_plan (hs : Region.noSelect ops = true) (hQ : ∀ c a d v w, Q (.panic c) (Act.put a d v) w → Q (.panic c) a w) (hcs : c < ops.size) :
    ∀ (ps : List (Nat × Nat)) (L : Array Bool) (d : Bool) (a : Act) (w : World), L.size = ops.size → L.getD c false = d → Closed md ops L → (d = false → S w) → planT md ops c ps L = true → wpPTW n P ops Q S c ps d a w → wpTW n P md ops Q S c ps.length L a w
  | [], L, d, a, w, _, _, _, _, hB, h => by
    simp only [planT, beq_iff_eq] at hB
    exact ⟨hB, h⟩
  | (k, 0) :: ps, L, d, a, w, hsz, hd, hC, hS, hB, h => by
    simp only [planT, Bool.and_eq_true, bne_iff_ne, ne_eq] at hB
    obtain ⟨⟨⟨h1, h2⟩, h3⟩, h4⟩ := hB
    obtain ⟨o, h0, v, hy, hK⟩ := h
    have hr : k ∈ Region.ready md ops L := by simpa using h2
    refine wpTW_first h0 (Region.noSelect_spec hs) (fun c a w => hQ c a o.dst v w) h3 (fun _ _ _ _ _ => trivial) _ L a w (Region.free_spec h0 h1) hr hC hy (fun h => hS (hd ▸ h)) ?_
    exact wpTW_plan hs hQ hcs ps _ d _ _ (by rw [Array.size_setIfInBounds]; exact hsz) (by rw [getD_set_ne false h3]; exact hd) (hC.set hr) hS h4 hK
  | (k, 1) :: ps, L, d, a, w, hsz, hd, hC, hS, hB, h => by
    simp only [planT, Bool.and_eq_true, bne_iff_ne, ne_eq] at hB
    obtain ⟨⟨⟨⟨h1, h2⟩, h3⟩, hw⟩, h4⟩ := hB
    obtain ⟨o, h0, v, hy, hK⟩ := h
    have hr : k ∈ Region.ready md ops L := by simpa using h2
    refine wpTW_first h0 (Region.noSelect_spec hs) (fun c a w => hQ c a o.dst v w) h3 (fun L' w' hC' hi' hS' => hS' ?_) _ L a w (Region.free_spec h0 h1) hr hC hy (fun h => hS (hd ▸ h)) ?_
    · cases hl : L'.getD c false with
      | false => rfl
      | true =>
        have := waits_spec hC' _ _ hw hl
        rw [getD_two hi'] at this
        cases this
    · exact wpTW_plan hs hQ hcs ps _ d _ _ (by rw [Array.size_setIfInBounds]; exact hsz) (by rw [getD_set_ne false h3]; exact hd) (hC.set hr) hS h4 hK
  | (k, j + 2) :: ps, L, d, a, w, hsz, hd, hC, hS, hB, h => by
    simp only [planT, Bool.and_eq_true, beq_iff_eq] at hB
    obtain ⟨hr, hB⟩ := hB
    have hk : k ∈ Region.ready md ops L := by rw [hr]; simp
    have hd' : (L.setIfInBounds k true).getD c false = (d || k == c) := by
      by_cases hkc : k = c
      · subst hkc
        simp [hsz, hcs]
      · rw [getD_set_ne false hkc, hd]; simp [hkc]
    refine ⟨fun h0 => (by rw [hr] at h0; cases h0), fun i hi => ?_⟩
    rw [hr, List.mem_singleton] at hi
    subst hi
    obtain ⟨o, h0, hw, h⟩ := h
    unfold wpOpIn
    simp only [h0]
    have hsz' : (L.setIfInBounds i true).size = ops.size := by rw [Array.size_setIfInBounds]; exact hsz
    rw [if_pos hw]
    exact Oper.wpIn_mono (fun a' w' h' => ⟨fun h => h'.1 (hd' ▸ h), wpTW_plan hs hQ hcs ps _ _ a' w' hsz' hd' (hC.set hk) h'.1 hB h'.2⟩) h

variable {w : World} {a : Act} {o : Oper} {ps : List (Nat × Nat)} {k : Nat} {d : Bool}
theorem wpIn_region_planTW {id : Nat} {l : List Oper} (S : World → Prop) (c : Nat) (ps : List (Nat × Nat)) (hm : P.follows .mixedOrders = true)
    (hB : (Region.noSelect l.toArray && planT .any l.toArray c ps (Array.replicate l.length false) && (ps.length == l.length) && decide (c < l.length)) = true)
    (hS : S w.drew) (h : wpPTW n P l.toArray (NoP Q) S c ps false a w.drew) : (Code.region id l.toArray true).wpIn Fence.wide n P Q a w := by
  simp only [Bool.and_eq_true, beq_iff_eq, decide_eq_true_eq] at hB
  obtain ⟨⟨⟨h1, h2⟩, h3⟩, h4⟩ := hB
  refine wpIn_mono (wpIn_region_any hm (wpAny_of_TW (S := S) (c := c) _ _ _ _ ?_)) NoP.imp
  have := wpTW_plan (n := n) (P := P) (md := .any) (Q := NoP Q) (S := S) (c := c) h1 (fun _ _ _ _ _ h => h) (by simpa using h4) ps (Array.replicate l.length false) false a w.drew (by simp) (by rw [Array.getD_eq_getD_getElem?, Array.getElem?_replicate]; split <;> rfl) (Closed.start _) (fun _ => hS) h2 h
  rw [h3] at this
  simpa using this

theorem pw_nil (h : Q .normal a w) : wpPTW n P ops (NoP Q) S c [] d a w := h
theorem pw_pure (ho : ops[k]? = some o) (hg : Region.wanted o (yielded ops a.tmps) = true) (h : ∀ K : Act → Prop, (∀ a', wpPTW n P ops Q S c ps d a' w → K a') → ∃ v, (∀ w', (execOp a.eval o).run P w' = .ok (.value v) w') ∧ K (a.put o.dst v)) : wpPTW n P ops Q S c ((k, 0) :: ps) d a w := by
  obtain ⟨v, h1, h2⟩ := h _ (fun _ h => h)
  exact ⟨o, ho, v, .inl ⟨hg, fun w' _ => h1 w'⟩, h2⟩
theorem pw_take (v : Value) (ho : ops[k]? = some o) (hg : Region.wanted o (yielded ops a.tmps) = true) (hrun : ∀ w', S w' → (execOp a.eval o).run P w' = .ok (.value v) w')
    (h : ∀ K : Act → Prop, (∀ a', wpPTW n P ops Q S c ps d a' w → K a') → K (a.put o.dst v)) : wpPTW n P ops Q S c ((k, 1) :: ps) d a w :=
  ⟨o, ho, v, .inl ⟨hg, hrun⟩, h (fun a' => wpPTW n P ops Q S c ps d a' w) (fun _ h => h)⟩
theorem pw_yield {l : Nat} {args : Array Value} (ho : ops[k]? = some o) (hg : Region.wanted o (yielded ops a.tmps) = true) (hrun : (execOp a.eval o).run P w = (Instr.yield l args).run P w)
    {R : Ending → World → Prop} (hy : YieldAt Fence.wide (n - 1) P l args w R)
    (h : ∀ e w1, R e w1 → ∃ v, e = .returned v ∧ ((d || k == c) = false → S w1) ∧ ∀ K : Act → Prop, (∀ a', wpPTW n P ops Q S c ps (d || k == c) a' w1 → K a') → K (a.put o.dst v)) : wpPTW n P ops Q S c ((k, 2) :: ps) d a w := by
  obtain ⟨fn, tmps, assign, body, hr, hR⟩ := hy
  refine ⟨o, ho, hg, fun _ _ => trivial, ?_⟩
  have hro : Fence.wide.round = none := rfl
  rw [hro, Oper.semAt_none, hrun, hr]
  refine ⟨(fun h => by cases h), RoundIn.mono hR fun e w1 he => ?_⟩
  obtain ⟨v, rfl, h1, h2⟩ := h e w1 he
  exact ⟨h1, h2 (fun a' => wpPTW n P ops Q S c ps (d || k == c) a' w1) (fun _ h => h)⟩
end
end Go.Proofs.YtijmkbhbpbkkoaaGreat

/- journal.records: the iterator over a half's records; its closure, for every loop body that counts the journal on (printed by wip/gen/jn5.py). -/
namespace Go.Proofs.YtijmkbhbpbkkoaaGreat
open Go.RowKit Go.Shelf
attribute [local go_sem] Oper.semAt_some

/-- the two boxes of the closure, and the journal, k records having come -/
structure RC (W : World) (Bb Bj jb : Nat) (A : Option Addr) (m cc : Nat) (l : List Nat) (c : Nat) (at_ size ep : Int) (n k : Nat) : Prop where
  b : Blk W Bb 29 #[.slice A m cc]
  j : Blk W Bj 36 #[.pointer (some ⟨jb, 0, none⟩)]
  s : Blk W jb 69 (jC c at_ size ep (n : Int) (k : Int))
  r : Rd W A m (bv l)
theorem RC.mod {W W' : World} {Bb Bj jb m cc c n k : Nat} {A : Option Addr} {l : List Nat} {at_ size ep : Int} {S : Nat → Prop} (h : RC W Bb Bj jb A m cc l c at_ size ep n k) (hm : Mod S W W') (h1 : ¬ S Bb) (h2 : ¬ S Bj) (h3 : ¬ S jb) (h4 : ∀ g, Of A g → ¬ S g) : RC W' Bb Bj jb A m cc l c at_ size ep n k :=
  ⟨h.b.mod hm h1, h.j.mod hm h2, h.s.mod hm h3, h.r.mod hm h4⟩
theorem RC.nn {W W' : World} {Bb Bj jb m cc c n k : Nat} {A : Option Addr} {l : List Nat} {at_ size ep : Int} (h : RC W Bb Bj jb A m cc l c at_ size ep n k) (hm : Mod Nn W W') : RC W' Bb Bj jb A m cc l c at_ size ep n k := h.mod hm (fun f => f) (fun f => f) (fun f => f) (fun _ _ f => f)
theorem own_ne_t5 {w : World} {base n s : Nat} {e t : TypeId} {v : Value} {xs : List Value} {g : Nat} {cs : Array Value} (h : w.ownsRow base e s v n xs) (hb : Blk w g t cs) (hne : t ≠ e) : ¬ v.ownBlock = some g := fun hg => by
  obtain ⟨_, _, _, _, hb', _⟩ := own_blk_eq h hg
  exact hb.ne_ hb' hne rfl
theorem records_it (jb : Nat) (v : Value) (hv : v.oneCell' = true) (hvc : v.cells = #[v]) (w : World) :
    Calls Tryz.prog 31 #[.pointer (some ⟨jb, 0, none⟩), v] w fun e w' => e = .returned (.func (.func 47) #[] #[.pointer (some ⟨w.heap.size + 1, 0, none⟩), .pointer (some ⟨w.heap.size, 0, none⟩)]) ∧ (w.alloc (.cells #[.pointer (some ⟨jb, 0, none⟩)] 36)).alloc (.cells #[v] 29) = w' := by
  go_enter Tryz.func31, Tryz.ntmps31
  go_wp2
  go_ret
  exact ⟨rfl, rfl⟩
theorem tell_rec {l : List Nat} {T : Tell} (h : Tells l T) {ep : Int} {k : Nat} (hr : RecAt l ep k) : T = ⟨2, ep, k, frLong l, (frOf l).data, fsec (frLong l), 0⟩ := by
  rw [h.yes hr.1, hr.2.1, hr.2.2.1, hr.2.2.2]; rfl
theorem tell_not {l : List Nat} {T : Tell} (h : Tells l T) {ep : Int} {k : Nat} (hr : ¬ RecAt l ep k) : T.r = 4 ∨ (T.r = 0 ∧ T.k ≠ 2) ∨ (T.r = 0 ∧ T.k = 2 ∧ T.e ≠ ep) ∨ (T.r = 0 ∧ T.k = 2 ∧ T.e = ep ∧ T.s ≠ (k : Int)) := by
  by_cases hh : Holds l
  · rw [h.yes hh]
    by_cases h1 : (frOf l).kind = 2
    · by_cases h2 : ((frOf l).epoch : Int) = ep
      · by_cases h3 : (frOf l).seq = k
        · exact absurd ⟨hh, h1, h2, h3⟩ hr
        · exact .inr (.inr (.inr ⟨rfl, by show ((frOf l).kind : Int) = 2; omega, h2, by show ¬ ((frOf l).seq : Int) = k; omega⟩))
      · exact .inr (.inr (.inl ⟨rfl, by show ((frOf l).kind : Int) = 2; omega, h2⟩))
    · exact .inr (.inl ⟨rfl, by show ¬ ((frOf l).kind : Int) = 2; omega⟩)
  · rw [h.no hh]; exact .inl rfl

set_option maxRecDepth 100000 in
set_option maxHeartbeats 6400000 in
theorem recs_in (lp Bb Bj jb m cc c lo : Nat) (A : Option Addr) (l : List Nat) (at_ size ep : Int) (J : Nat → Nat → List (List Nat) → World → Prop) (hl : ∀ z ∈ l, z < 256) (hL : l.length = m) (hm : m ≤ 1000000) (hcc : m ≤ cc) (hcm : cc ≤ maxLen)
    (hJ : ∀ k n R W W', J k n R W → Mod Nn W W' → J k n R W') (hlo : ∀ k n R W, J k n R W → lo ≤ W.heap.size)
    (hY : ∀ k n R W A' L c', IsChain l ep k n R → RecAt (l.drop (512 * n)) ep k → L = frLong (l.drop (512 * n)) → J k n R W → RC W Bb Bj jb A m cc l c at_ size ep n k → W.ownsRow lo 5 1 (.slice A' L c') L (bv (frOf (l.drop (512 * n))).data) →
      YieldAt Fence.wide 1 Tryz.prog lp #[.int .i64 (fsec L : Nat), .slice A' L c'] W fun e W' => e = .returned (.bool true) ∧ J (k + 1) (n + fsec L) (R ++ [(frOf (l.drop (512 * n))).data]) W' ∧ RC W' Bb Bj jb A m cc l c at_ size ep (n + fsec L) (k + 1))
    (W : World) (hJ0 : J 0 0 [] W) (hS0 : RC W Bb Bj jb A m cc l c at_ size ep 0 0) :
    CallsIn Fence.wide 2 Tryz.prog 47 #[.func (.yield lp) #[] #[], .pointer (some ⟨Bb, 0, none⟩), .pointer (some ⟨Bj, 0, none⟩)] W fun e W' => (∃ v, e = .returned v) ∧ ∃ n R, AllRecs l ep n R ∧ J R.length n R W' ∧ RC W' Bb Bj jb A m cc l c at_ size ep n R.length := by
  have HL := Lib.hid (And.intro hl (And.intro hL (And.intro hcc hcm)))
  clear hl hL hcc hcm
  refine callsIn_of_wp Tryz.func47 rfl trivial ?_ rfl
  simp only [Tryz.ntmps47, List.size_toArray, List.length_cons, List.length_nil, Nat.reduceAdd, Nat.reduceSub, Array.replicate_succ, Array.replicate_zero, List.push_toArray, List.append_toArray, List.nil_append, List.cons_append]
  gi_wp2
  gi_loopw [4] (fun v4 wr => ∃ (k n : Nat) (R : List (List Nat)) (v : Value), v = v4 ∧ IsChain l ep k n R ∧ J k n R wr ∧ RC wr Bb Bj jb A m cc l c at_ size ep n k) (fun _ wr => match wr.cell? ⟨jb, 4, none⟩ with | some (.int _ z) => m - z.toNat | _ => 0)
  case atStart => exact ⟨0, 0, [], _, rfl, ⟨rfl, rfl⟩, hJ0, hS0⟩
  case round =>
    obtain ⟨k, n, R, v, rfl, hch, hj, hs⟩ := hrel
    clear hJ0 hS0
    have hfit : 512 * n ≤ m := by have := hch.fits; rw [HL.out.2.1] at this; exact this
    obtain ⟨wo, rfl⟩ : ∃ wo : World, wo = wr := ⟨_, rfl⟩
    have HS := Lib.hid (And.intro hch (And.intro hj (And.intro hs hfit)))
    have HB := Lib.hid (show ∀ w', Mod Nn wo.drew w' → RC w' Bb Bj jb A m cc l c at_ size ep n k from fun w' m => (hs.nn (Mod.refl Nn wo).drew).nn m)
    obtain ⟨T, hT, hTP⟩ := tell_of (l.drop (512 * n)) (fun z hz => HL.out.1 z (List.mem_of_mem_drop hz))
    have HT := Lib.hid (And.intro hT hTP)
    have HLO := Lib.hid (hlo _ _ _ _ hj)
    clear hch hj hs hT hTP
    gi_wp2
    gi_cut [4, 5, 6] from 7 (fun v4 v5 v6 w' => ∃ (fb : Nat) (A' : Option Addr) (c' : Nat), v4 = .pointer (some ⟨fb, 0, none⟩) ∧ v5 = .int .i64 T.q ∧ v6 = .int .i64 T.r ∧ Blk w' fb 76 #[.int .i64 T.k, .int .i64 T.e, .int .i64 T.s, .slice A' T.m c'] ∧ w'.ownsRow lo 5 1 (.slice A' T.m c') T.m (bv T.d) ∧ Mod Nn wo w')
    case first =>
      refine wpIn_wide.2 ?_
      obtain ⟨p, hp⟩ : ∃ p, p = 512 * n := ⟨_, rfl⟩
      have e1 : wrap64 (512 * (n : Int)) = (p : Int) := by rw [wrap64_id (by omega) (by omega)]; omega
      have e2 : IntKind.i64.wrap (512 * (n : Int)) = (p : Int) := by rw [IntKind.wrap_i64]; omega
      have HP := Lib.hid (And.intro hp (show p ≤ m by omega)); clear hp hfit
      have hget : ∀ W, Rd W (subA A cc p 1) (m - p) (bv (l.drop p)) → Calls Tryz.prog 48 #[.slice (subA A cc p 1) (m - p) (cc - p)] W (TellP W T) := fun W h =>
        (fget_any h (fun z hz => HL.out.1 z (List.mem_of_mem_drop hz)) (by have := HL.out; omega) (by have := HL.out.2.2.1; omega) (by have := HL.out.2.2.2; omega)).mono (fun r w' hg => HT.out.2 W r w' (by rw [← HP.out.1]; exact hg))
      have hrd : ∀ W, Mod Nn wo.drew W → Rd W (subA A cc p 1) (m - p) (bv (l.drop p)) := fun W hW => by
        have := (HB.out W hW).r.post (c := cc) p HP.out.2 HL.out.2.2.1
        unfold bv at this ⊢
        rw [List.map_drop]; exact this
      have HG := Lib.hid (And.intro hget hrd); clear hget hrd
      refine wp_region_planV (fun w' => Mod Nn wo.drew w') 13 (.read 0 (.read 1 (.pure 2 (.pure 3 (.read 4 (.pure 5 (.pure 6 (.fork 12 7 (.alone 7 (.pure 8 (.pure 9 (.pure 10 (.pure 11 (.alone 13 (.pure 14 (.pure 15 .nil)))))))) (.pure 8 (.pure 9 (.pure 10 (.pure 11 (.alone 12 (.alone 13 (.pure 14 (.pure 15 .nil)))))))))))))))) (by kernel_rfl) (by kernel_rfl) (Mod.refl _ _) ?_
      refine pv_take (.slice A m cc) rfl rfl (fun w' hS => exec_load1 (P := Tryz.prog) 29 _ rfl rfl ((HB.out w' hS).b.cell 0) Tryz.underlying29 rfl) (fun K hK => ?_); go_simp; refine hK _ ?_; clear hK K
      refine pv_take (.pointer (some ⟨jb, 0, none⟩)) rfl rfl (fun w' hS => exec_load1 (P := Tryz.prog) 36 _ rfl rfl ((HB.out w' hS).j.cell 0) Tryz.underlying36 rfl) (fun K hK => ?_); go_simp; refine hK _ ?_; clear hK K
      iterate 2 (refine pv_pure rfl rfl (fun K hK => ?_); go_simp; refine hK _ ?_; clear hK K)
      refine pv_take (.int .i64 (n : Int)) rfl rfl (fun w' hS => exec_load1 (P := Tryz.prog) 3 _ rfl rfl ((HB.out w' hS).s.cell 4) Tryz.underlying3 rfl) (fun K hK => ?_); go_simp; refine hK _ ?_; clear hK K
      iterate 1 (refine pv_pure rfl rfl (fun K hK => ?_); go_simp; refine hK _ ?_; clear hK K)
      refine pv_is (.slice (subA A cc p 1) (m - p) (cc - p)) rfl rfl (fun w' => exec_sub_l (P := Tryz.prog) 29 _ _ rfl 5 1 Tryz.underlying29 (by kernel_rfl) (A := A) (n := m) (c := cc) (l := p) rfl rfl HP.out.2) (fun K hK => ?_); go_simp; refine hK _ ?_; clear hK K
      refine pv_fork ?oA ?oB
      case' oA =>
        refine pv_val rfl rfl (exec_alloc (P := Tryz.prog) 76 rfl info_frame) (fun _ => (Mod.refl Nn wo.drew).alloc _) (fun K hK => ?_); go_simp; refine hK _ ?_; clear hK K
        refine pv_call rfl rfl (fun K hK => ?_); go_simp; refine ⟨_, _, ⟨rfl, rfl⟩, hK _ _ _ ?_⟩; clear hK K
        refine (HG.out.1 _ (HG.out.2 _ ((Mod.refl Nn wo.drew).alloc _))).mono ?_
        rintro r Z ⟨A', c', rfl, own3, m3⟩
        refine ⟨_, rfl, fun _ => ((Mod.refl Nn wo.drew).alloc _).nn_ m3, ?_⟩
        have bz : Blk Z wo.drew.heap.size 76 #[.int .i64 0, .int .i64 0, .int .i64 0, .slice none 0 0] := (Blk.new wo.drew 76 #[.int .i64 0, .int .i64 0, .int .i64 0, .slice none 0 0]).mod m3 (fun f => f)
        have oz := own_base (base' := lo) own3 (fun g hg => by have h1 := own_ge own3 g hg; have h2 := HLO.out; have h3 : wo.heap.size ≤ (wo.drew.alloc (.cells (Value.agg #[.int .i64 0, .int .i64 0, .int .i64 0, .slice none 0 0]).cells 76)).heap.size := ((Mod.refl Nn wo.drew).alloc (.cells (Value.agg #[.int .i64 0, .int .i64 0, .int .i64 0, .slice none 0 0]).cells 76)).size; omega)
        have mz : Mod Nn wo Z := ((Mod.refl Nn wo).drew).nn_ (((Mod.refl Nn wo.drew).alloc _).nn_ m3)
        have hfq : wo.drew.heap.size = wo.heap.size := rfl
        rw [hfq] at bz
        clear hfq own3 m3
        generalize hfe : wo.heap.size = fb at bz ⊢
        have hfb : wo.heap.size ≤ fb := Nat.le_of_eq hfe
        clear hfe
        unfold frV
        iterate 4 (refine pv_pure rfl rfl (fun K hK => ?_); go_simp; refine hK _ ?_; clear hK K)
        have HZ := Lib.hid (And.intro bz (And.intro oz (And.intro mz hfb)))
        clear bz oz mz hfb
        refine pv_unit (w1 := Z.setRow fb #[.int .i64 T.k, .int .i64 T.e, .int .i64 T.s, .slice A' T.m c']) rfl rfl (exec_store_row (P := Tryz.prog) 76 _ _ rfl rfl rfl HZ.out.1 size_frame rfl (one4 _ _ _ _ _ _)) (fun h => by simp at h) (fun K hK => ?_); go_simp; refine hK _ ?_; clear hK K
        iterate 2 (refine pv_pure rfl rfl (fun K hK => ?_); go_simp; refine hK _ ?_; clear hK K)
        refine pv_nil ?_
        have b9 := HZ.out.1.setRow_ #[.int .i64 T.k, .int .i64 T.e, .int .i64 T.s, .slice A' T.m c']
        have m9 : Mod (At fb) Z (Z.setRow fb #[.int .i64 T.k, .int .i64 T.e, .int .i64 T.s, .slice A' T.m c']) := Mod.rowAt _ _ _
        have o9 := own_mod HZ.out.2.1 m9 (fun g hg e => by have e : g = fb := e; subst e; exact own_ne_t5 HZ.out.2.1 HZ.out.1 (by decide) hg)
        have HF := Lib.hid (And.intro b9 (And.intro o9 (HZ.out.2.2.1.new_ m9 HZ.out.2.2.2)))
        clear b9 m9 o9
        gi_wp2
        gi_meet
        case rel => exact ⟨fb, A', c', rfl, rfl, rfl, HF.out⟩
      case' oB =>
        refine pv_call rfl rfl (fun K hK => ?_); go_simp; refine ⟨_, _, ⟨rfl, rfl⟩, hK _ _ _ ?_⟩; clear hK K
        refine (HG.out.1 _ (HG.out.2 _ (Mod.refl Nn wo.drew))).mono ?_
        rintro r w3 ⟨A', c', rfl, own3, m3⟩
        refine ⟨_, rfl, fun _ => m3, ?_⟩
        unfold frV
        iterate 4 (refine pv_pure rfl rfl (fun K hK => ?_); go_simp; refine hK _ ?_; clear hK K)
        refine pv_val rfl rfl (exec_alloc (P := Tryz.prog) 76 rfl info_frame) (fun _ => m3.alloc _) (fun K hK => ?_); go_simp; refine hK _ ?_; clear hK K
        have bz := Blk.new w3 76 #[.int .i64 0, .int .i64 0, .int .i64 0, .slice none 0 0]
        have oz := own_mod (own_base (base' := lo) own3 (fun g hg => by have h1 := own_ge own3 g hg; have h2 := HLO.out; have h3 : wo.drew.heap.size = wo.heap.size := rfl; omega)) ((Mod.refl Nn w3).alloc (.cells #[.int .i64 0, .int .i64 0, .int .i64 0, .slice none 0 0] 76)) (fun _ _ f => f)
        have mz : Mod Nn wo (w3.alloc (.cells #[.int .i64 0, .int .i64 0, .int .i64 0, .slice none 0 0] 76)) := ((Mod.refl Nn wo).drew).nn_ (m3.alloc _)
        have hsz3 : wo.heap.size ≤ w3.heap.size := m3.size
        clear own3 m3
        have hcz : (Value.agg #[.int .i64 0, .int .i64 0, .int .i64 0, .slice none 0 0]).cells = #[.int .i64 0, .int .i64 0, .int .i64 0, .slice none 0 0] := rfl
        rw [hcz]
        generalize w3.alloc (.cells #[.int .i64 0, .int .i64 0, .int .i64 0, .slice none 0 0] 76) = Z at bz oz mz ⊢
        have hfb : wo.heap.size ≤ w3.heap.size := hsz3
        generalize w3.heap.size = fb at bz hfb ⊢
        have HZ := Lib.hid (And.intro bz (And.intro oz (And.intro mz hfb)))
        clear bz oz mz hfb
        refine pv_unit (w1 := Z.setRow fb #[.int .i64 T.k, .int .i64 T.e, .int .i64 T.s, .slice A' T.m c']) rfl rfl (exec_store_row (P := Tryz.prog) 76 _ _ rfl rfl rfl HZ.out.1 size_frame rfl (one4 _ _ _ _ _ _)) (fun h => by simp at h) (fun K hK => ?_); go_simp; refine hK _ ?_; clear hK K
        iterate 2 (refine pv_pure rfl rfl (fun K hK => ?_); go_simp; refine hK _ ?_; clear hK K)
        refine pv_nil ?_
        have b9 := HZ.out.1.setRow_ #[.int .i64 T.k, .int .i64 T.e, .int .i64 T.s, .slice A' T.m c']
        have m9 : Mod (At fb) Z (Z.setRow fb #[.int .i64 T.k, .int .i64 T.e, .int .i64 T.s, .slice A' T.m c']) := Mod.rowAt _ _ _
        have o9 := own_mod HZ.out.2.1 m9 (fun g hg e => by have e : g = fb := e; subst e; exact own_ne_t5 HZ.out.2.1 HZ.out.1 (by decide) hg)
        have HF := Lib.hid (And.intro b9 (And.intro o9 (HZ.out.2.2.1.new_ m9 HZ.out.2.2.2)))
        clear b9 m9 o9
        gi_wp2
        gi_meet
        case rel => exact ⟨fb, A', c', rfl, rfl, rfl, HF.out⟩
    case rest =>
      obtain ⟨fb, A', c', rfl, rfl, rfl, bf, of, mo⟩ := hcut
      obtain ⟨hch, hj, hs, hfit⟩ := HS.out
      have hsc := hs.nn mo
      have hjc := hJ _ _ _ _ _ hj mo
      have C0 := bf.cell 0; have C1 := bf.cell 1; have C2 := bf.cell 2; have C3 := bf.cell 3
      have cj : wc.cell? ⟨Bj, 0, none⟩ = some (.pointer (some ⟨jb, 0, none⟩)) := hsc.j.cell 0
      have c3 : wc.cell? ⟨jb, 3, none⟩ = some (.int .i64 ep) := hsc.s.cell 3
      have c5 : wc.cell? ⟨jb, 5, none⟩ = some (.int .i64 (k : Int)) := hsc.s.cell 5
      have c4 : wo.cell? ⟨jb, 4, none⟩ = some (.int .i64 (n : Int)) := hs.s.cell 4
      have hmx : Tryz.prog.follows .mixedOrders = true := by kernel_rfl
      by_cases hrec : RecAt (l.drop (512 * n)) ep k
      · have hTe := tell_rec HT.out.1 hrec
        subst hTe
        have hld := hrec.1.2.2.2.2.1
        rw [List.length_drop, HL.out.2.1] at hld
        obtain ⟨L, hLe⟩ : ∃ L, L = frLong (l.drop (512 * n)) := ⟨_, rfl⟩
        have hpos := fsec_pos L
        rw [← hLe] at hld
        have hy0 := hY k n R wc.drew A' L c' hch hrec hLe (hJ _ _ _ _ _ hjc (Mod.refl Nn wc).drew) (hsc.nn (Mod.refl Nn wc).drew) (by rw [hLe]; exact own_mod of (Mod.refl Nn wc).drew (fun _ _ f => f))
        have hch2 : IsChain l ep (k + 1) (n + fsec L) (R ++ [(frOf (l.drop (512 * n))).data]) := ⟨n, R, hch, hrec, by rw [hLe], rfl⟩
        dsimp only at bf of ⊢
        rw [← hLe] at bf of ⊢
        have HC := Lib.hid (And.intro hch2 (And.intro hld hpos)); clear hch2 hld hpos hLe
        have H4 := Lib.hid c4; clear c4
        have HY := Lib.hid hy0
        have HB := Lib.hid (show ∀ w', Mod Nn wc.drew w' → Blk w' fb 76 #[.int .i64 2, .int .i64 ep, .int .i64 (k : Int), .slice A' L c'] ∧ RC w' Bb Bj jb A m cc l c at_ size ep n k from fun w' m => ⟨(bf.mod (Mod.refl Nn wc).drew (fun f => f)).mod m (fun f => f), (hsc.nn (Mod.refl Nn wc).drew).nn m⟩)
        clear hy0 hch hj hs hsc hjc bf of mo hrec HT HS hfit C0 C1 C2 C3 cj c3 c5
        gi_wp2
        refine wpIn_region_planTW (fun w' => Mod Nn wc.drew w') 30 [(0, 0), (1, 0), (2, 0), (3, 0), (4, 1), (5, 0), (6, 0), (7, 0), (8, 0), (9, 1), (10, 1), (11, 0), (12, 0), (13, 1), (14, 0), (15, 0), (16, 0), (17, 0), (18, 1), (19, 1), (20, 0), (21, 0), (22, 1), (23, 0), (24, 0), (25, 0), (26, 0), (27, 0), (28, 0), (29, 1), (30, 2), (31, 0), (32, 0)] (by kernel_rfl) (by kernel_rfl) (Mod.refl _ _) ?_
        iterate 4 (refine pw_pure rfl rfl (fun K hK => ?_); go_simp; refine hK _ ?_; clear hK K)
        refine pw_take (.int .i64 2) rfl rfl (fun w' hS => exec_load1 (P := Tryz.prog) 3 _ rfl rfl ((HB.out w' hS).1.cell 0) Tryz.underlying3 rfl) (fun K hK => ?_); go_simp; refine hK _ ?_; clear hK K
        iterate 4 (refine pw_pure rfl rfl (fun K hK => ?_); go_simp; refine hK _ ?_; clear hK K)
        refine pw_take (.int .i64 ep) rfl rfl (fun w' hS => exec_load1 (P := Tryz.prog) 3 _ rfl rfl ((HB.out w' hS).1.cell 1) Tryz.underlying3 rfl) (fun K hK => ?_); go_simp; refine hK _ ?_; clear hK K
        refine pw_take (.pointer (some ⟨jb, 0, none⟩)) rfl rfl (fun w' hS => exec_load1 (P := Tryz.prog) 36 _ rfl rfl ((HB.out w' hS).2.j.cell 0) Tryz.underlying36 rfl) (fun K hK => ?_); go_simp; refine hK _ ?_; clear hK K
        iterate 2 (refine pw_pure rfl rfl (fun K hK => ?_); go_simp; refine hK _ ?_; clear hK K)
        refine pw_take (.int .i64 ep) rfl rfl (fun w' hS => exec_load1 (P := Tryz.prog) 3 _ rfl rfl ((HB.out w' hS).2.s.cell 3) Tryz.underlying3 rfl) (fun K hK => ?_); go_simp; refine hK _ ?_; clear hK K
        iterate 4 (refine pw_pure rfl rfl (fun K hK => ?_); go_simp; refine hK _ ?_; clear hK K)
        refine pw_take (.int .i64 (k : Int)) rfl rfl (fun w' hS => exec_load1 (P := Tryz.prog) 3 _ rfl rfl ((HB.out w' hS).1.cell 2) Tryz.underlying3 rfl) (fun K hK => ?_); go_simp; refine hK _ ?_; clear hK K
        refine pw_take (.pointer (some ⟨jb, 0, none⟩)) rfl rfl (fun w' hS => exec_load1 (P := Tryz.prog) 36 _ rfl rfl ((HB.out w' hS).2.j.cell 0) Tryz.underlying36 rfl) (fun K hK => ?_); go_simp; refine hK _ ?_; clear hK K
        iterate 2 (refine pw_pure rfl rfl (fun K hK => ?_); go_simp; refine hK _ ?_; clear hK K)
        refine pw_take (.int .i64 (k : Int)) rfl rfl (fun w' hS => exec_load1 (P := Tryz.prog) 3 _ rfl rfl ((HB.out w' hS).2.s.cell 5) Tryz.underlying3 rfl) (fun K hK => ?_); go_simp; refine hK _ ?_; clear hK K
        iterate 6 (refine pw_pure rfl rfl (fun K hK => ?_); go_simp; refine hK _ ?_; clear hK K)
        refine pw_take (.slice A' L c') rfl rfl (fun w' hS => exec_load1 (P := Tryz.prog) 29 _ rfl rfl ((HB.out w' hS).1.cell 3) Tryz.underlying29 rfl) (fun K hK => ?_); go_simp; refine hK _ ?_; clear hK K
        refine pw_yield (l := lp) (args := #[.int .i64 (fsec L : Nat), .slice A' L c']) rfl rfl (by go_simp) HY.out ?_
        rintro e W' ⟨rfl, hJ', hRC'⟩
        have c4' : W'.cell? ⟨jb, 4, none⟩ = some (.int .i64 ((n + fsec L : Nat) : Int)) := hRC'.s.cell 4
        have HR := Lib.hid (And.intro hJ' (And.intro hRC' c4')); clear hJ' hRC' c4'
        refine ⟨_, rfl, (fun h => by simp at h), fun K hK => ?_⟩; go_simp; refine hK _ ?_; clear hK K
        iterate 2 (refine pw_pure rfl rfl (fun K hK => ?_); go_simp; refine hK _ ?_; clear hK K)
        refine pw_nil ?_
        gi_wp2
        refine ⟨⟨k + 1, n + fsec L, _, _, rfl, HC.out.1, HR.out.1, HR.out.2.1⟩, ?_⟩
        rw [HR.out.2.2, H4.out]
        show m - ((n + fsec L : Nat) : Int).toNat < m - ((n : Nat) : Int).toNat
        rw [Int.toNat_natCast, Int.toNat_natCast]
        obtain ⟨-, hld, hpos⟩ := HC.out
        omega
      · have hTn := tell_not HT.out.1 hrec
        have HE := Lib.hid (And.intro hch (And.intro hrec (And.intro (hJ _ _ _ _ _ hjc (Mod.refl Nn wc).drew) (hsc.nn (Mod.refl Nn wc).drew))))
        have HN := Lib.hid (show ∀ w', Mod Nn wc.drew w' → Blk w' fb 76 #[.int .i64 T.k, .int .i64 T.e, .int .i64 T.s, .slice A' T.m c'] ∧ RC w' Bb Bj jb A m cc l c at_ size ep n k from fun w' m => ⟨(bf.mod (Mod.refl Nn wc).drew (fun f => f)).mod m (fun f => f), (hsc.nn (Mod.refl Nn wc).drew).nn m⟩)
        clear hch hj hs hsc hjc bf of mo hrec HB HT HS hfit c4 C0 C1 C2 C3 cj c3 c5
        obtain ⟨tk, te, ts, tm, td, tq, tr⟩ := T
        dsimp only at HN hTn ⊢
        rcases hTn with rfl | ⟨rfl, h1⟩ | ⟨rfl, rfl, h1⟩ | ⟨rfl, rfl, rfl, h1⟩
        · gi_wp2
          refine wpIn_wide.2 ?_
          refine wp_region_planC (fun w' => Mod Nn wc.drew w') [(0, true), (1, true), (2, true), (3, true), (4, true), (5, true), (6, true), (7, true), (8, true), (9, true), (10, true), (11, true), (12, true), (13, true), (14, true), (15, true), (16, true), (17, true), (18, true), (19, true), (20, true), (21, true), (22, true), (23, true), (24, true), (25, true), (26, true), (27, true), (28, true), (29, true), (30, false), (31, true), (32, true)] (by kernel_rfl) (by kernel_rfl) (Mod.refl _ _) ?_
          iterate 3 (refine pc_pure rfl rfl (fun K hK => ?_); go_simp; refine hK _ ?_; clear hK K)
          iterate 3 (refine pc_skip rfl rfl (fun K hK => ?_); go_simp; refine hK _ ?_; clear hK K)
          iterate 2 (refine pc_pure rfl rfl (fun K hK => ?_); go_simp; refine hK _ ?_; clear hK K)
          iterate 7 (refine pc_skip rfl rfl (fun K hK => ?_); go_simp; refine hK _ ?_; clear hK K)
          iterate 2 (refine pc_pure rfl rfl (fun K hK => ?_); go_simp; refine hK _ ?_; clear hK K)
          iterate 7 (refine pc_skip rfl rfl (fun K hK => ?_); go_simp; refine hK _ ?_; clear hK K)
          iterate 2 (refine pc_pure rfl rfl (fun K hK => ?_); go_simp; refine hK _ ?_; clear hK K)
          iterate 4 (refine pc_skip rfl rfl (fun K hK => ?_); go_simp; refine hK _ ?_; clear hK K)
          refine pc_skipD rfl rfl (fun K hK => ?_); go_simp; refine hK _ ?_; clear hK K
          iterate 1 (refine pc_skip rfl rfl (fun K hK => ?_); go_simp; refine hK _ ?_; clear hK K)
          iterate 1 (refine pc_pure rfl rfl (fun K hK => ?_); go_simp; refine hK _ ?_; clear hK K)
          refine pc_nil ?_
          gi_wp2
          refine bodyPost_ret (results_none rfl _ _ _) rfl ?_
          obtain ⟨hch, hrec, hj, hs⟩ := HE.out
          have hlen := hch.len
          subst hlen
          exact ⟨⟨_, rfl⟩, n, R, ⟨hch, hrec⟩, hj, hs⟩
        · have g1 : (tk != 2) = true := by rw [bne_iff_ne]; exact h1
          have g2 : (tk == 2) = false := by rw [beq_eq_false_iff_ne]; exact h1
          have g3 : decide (tk = 2) = false := decide_eq_false h1
          gi_wp2
          refine wpIn_wide.2 ?_
          refine wp_region_planC (fun w' => Mod Nn wc.drew w') [(0, true), (1, true), (2, true), (3, true), (4, true), (5, true), (6, true), (7, true), (8, true), (9, true), (10, true), (11, true), (12, true), (13, true), (14, true), (15, true), (16, true), (17, true), (18, true), (19, true), (20, true), (21, true), (22, true), (23, true), (24, true), (25, true), (26, true), (27, true), (28, true), (29, true), (30, false), (31, true), (32, true)] (by kernel_rfl) (by kernel_rfl) (Mod.refl _ _) ?_
          iterate 4 (refine pc_pure rfl rfl (fun K hK => ?_); go_simp; refine hK _ ?_; clear hK K)
          refine pc_take (.int .i64 tk) rfl rfl (fun w' hS => exec_load1 (P := Tryz.prog) 3 _ rfl rfl ((HN.out w' hS).1.cell 0) Tryz.underlying3 rfl) (fun K hK => ?_); go_simp; refine hK _ ?_; clear hK K
          iterate 1 (refine pc_pure rfl rfl (fun K hK => ?_); go_simp; refine hK _ ?_; clear hK K)
          iterate 2 (refine pc_pure rfl rfl (fun K hK => ?_); go_simp; refine hK _ ?_; clear hK K)
          iterate 7 (refine pc_skip rfl rfl (fun K hK => ?_); go_simp; refine hK _ ?_; clear hK K)
          iterate 2 (refine pc_pure rfl rfl (fun K hK => ?_); go_simp; refine hK _ ?_; clear hK K)
          iterate 7 (refine pc_skip rfl rfl (fun K hK => ?_); go_simp; refine hK _ ?_; clear hK K)
          iterate 2 (refine pc_pure rfl rfl (fun K hK => ?_); go_simp; refine hK _ ?_; clear hK K)
          iterate 4 (refine pc_skip rfl rfl (fun K hK => ?_); go_simp; refine hK _ ?_; clear hK K)
          refine pc_skipD rfl rfl (fun K hK => ?_); go_simp; refine hK _ ?_; clear hK K
          iterate 1 (refine pc_skip rfl rfl (fun K hK => ?_); go_simp; refine hK _ ?_; clear hK K)
          iterate 1 (refine pc_pure rfl rfl (fun K hK => ?_); go_simp; refine hK _ ?_; clear hK K)
          refine pc_nil ?_
          gi_wp2
          refine bodyPost_ret (results_none rfl _ _ _) rfl ?_
          obtain ⟨hch, hrec, hj, hs⟩ := HE.out
          have hlen := hch.len
          subst hlen
          exact ⟨⟨_, rfl⟩, n, R, ⟨hch, hrec⟩, hj, hs⟩
        · have g1 : (te != ep) = true := by rw [bne_iff_ne]; exact h1
          have g2 : (te == ep) = false := by rw [beq_eq_false_iff_ne]; exact h1
          have g3 : decide (te = ep) = false := decide_eq_false h1
          gi_wp2
          refine wpIn_wide.2 ?_
          refine wp_region_planC (fun w' => Mod Nn wc.drew w') [(0, true), (1, true), (2, true), (3, true), (4, true), (5, true), (6, true), (7, true), (8, true), (9, true), (10, true), (11, true), (12, true), (13, true), (14, true), (15, true), (16, true), (17, true), (18, true), (19, true), (20, true), (21, true), (22, true), (23, true), (24, true), (25, true), (26, true), (27, true), (28, true), (29, true), (30, false), (31, true), (32, true)] (by kernel_rfl) (by kernel_rfl) (Mod.refl _ _) ?_
          iterate 4 (refine pc_pure rfl rfl (fun K hK => ?_); go_simp; refine hK _ ?_; clear hK K)
          refine pc_take (.int .i64 2) rfl rfl (fun w' hS => exec_load1 (P := Tryz.prog) 3 _ rfl rfl ((HN.out w' hS).1.cell 0) Tryz.underlying3 rfl) (fun K hK => ?_); go_simp; refine hK _ ?_; clear hK K
          iterate 4 (refine pc_pure rfl rfl (fun K hK => ?_); go_simp; refine hK _ ?_; clear hK K)
          refine pc_take (.int .i64 te) rfl rfl (fun w' hS => exec_load1 (P := Tryz.prog) 3 _ rfl rfl ((HN.out w' hS).1.cell 1) Tryz.underlying3 rfl) (fun K hK => ?_); go_simp; refine hK _ ?_; clear hK K
          refine pc_take (.pointer (some ⟨jb, 0, none⟩)) rfl rfl (fun w' hS => exec_load1 (P := Tryz.prog) 36 _ rfl rfl ((HN.out w' hS).2.j.cell 0) Tryz.underlying36 rfl) (fun K hK => ?_); go_simp; refine hK _ ?_; clear hK K
          iterate 2 (refine pc_pure rfl rfl (fun K hK => ?_); go_simp; refine hK _ ?_; clear hK K)
          refine pc_take (.int .i64 ep) rfl rfl (fun w' hS => exec_load1 (P := Tryz.prog) 3 _ rfl rfl ((HN.out w' hS).2.s.cell 3) Tryz.underlying3 rfl) (fun K hK => ?_); go_simp; refine hK _ ?_; clear hK K
          iterate 1 (refine pc_pure rfl rfl (fun K hK => ?_); go_simp; refine hK _ ?_; clear hK K)
          iterate 2 (refine pc_pure rfl rfl (fun K hK => ?_); go_simp; refine hK _ ?_; clear hK K)
          iterate 7 (refine pc_skip rfl rfl (fun K hK => ?_); go_simp; refine hK _ ?_; clear hK K)
          iterate 2 (refine pc_pure rfl rfl (fun K hK => ?_); go_simp; refine hK _ ?_; clear hK K)
          iterate 4 (refine pc_skip rfl rfl (fun K hK => ?_); go_simp; refine hK _ ?_; clear hK K)
          refine pc_skipD rfl rfl (fun K hK => ?_); go_simp; refine hK _ ?_; clear hK K
          iterate 1 (refine pc_skip rfl rfl (fun K hK => ?_); go_simp; refine hK _ ?_; clear hK K)
          iterate 1 (refine pc_pure rfl rfl (fun K hK => ?_); go_simp; refine hK _ ?_; clear hK K)
          refine pc_nil ?_
          gi_wp2
          refine bodyPost_ret (results_none rfl _ _ _) rfl ?_
          obtain ⟨hch, hrec, hj, hs⟩ := HE.out
          have hlen := hch.len
          subst hlen
          exact ⟨⟨_, rfl⟩, n, R, ⟨hch, hrec⟩, hj, hs⟩
        · have g1 : (ts != (k : Int)) = true := by rw [bne_iff_ne]; exact h1
          have g2 : (ts == (k : Int)) = false := by rw [beq_eq_false_iff_ne]; exact h1
          have g3 : decide (ts = (k : Int)) = false := decide_eq_false h1
          gi_wp2
          refine wpIn_wide.2 ?_
          refine wp_region_planC (fun w' => Mod Nn wc.drew w') [(0, true), (1, true), (2, true), (3, true), (4, true), (5, true), (6, true), (7, true), (8, true), (9, true), (10, true), (11, true), (12, true), (13, true), (14, true), (15, true), (16, true), (17, true), (18, true), (19, true), (20, true), (21, true), (22, true), (23, true), (24, true), (25, true), (26, true), (27, true), (28, true), (29, true), (30, false), (31, true), (32, true)] (by kernel_rfl) (by kernel_rfl) (Mod.refl _ _) ?_
          iterate 4 (refine pc_pure rfl rfl (fun K hK => ?_); go_simp; refine hK _ ?_; clear hK K)
          refine pc_take (.int .i64 2) rfl rfl (fun w' hS => exec_load1 (P := Tryz.prog) 3 _ rfl rfl ((HN.out w' hS).1.cell 0) Tryz.underlying3 rfl) (fun K hK => ?_); go_simp; refine hK _ ?_; clear hK K
          iterate 4 (refine pc_pure rfl rfl (fun K hK => ?_); go_simp; refine hK _ ?_; clear hK K)
          refine pc_take (.int .i64 te) rfl rfl (fun w' hS => exec_load1 (P := Tryz.prog) 3 _ rfl rfl ((HN.out w' hS).1.cell 1) Tryz.underlying3 rfl) (fun K hK => ?_); go_simp; refine hK _ ?_; clear hK K
          refine pc_take (.pointer (some ⟨jb, 0, none⟩)) rfl rfl (fun w' hS => exec_load1 (P := Tryz.prog) 36 _ rfl rfl ((HN.out w' hS).2.j.cell 0) Tryz.underlying36 rfl) (fun K hK => ?_); go_simp; refine hK _ ?_; clear hK K
          iterate 2 (refine pc_pure rfl rfl (fun K hK => ?_); go_simp; refine hK _ ?_; clear hK K)
          refine pc_take (.int .i64 te) rfl rfl (fun w' hS => exec_load1 (P := Tryz.prog) 3 _ rfl rfl ((HN.out w' hS).2.s.cell 3) Tryz.underlying3 rfl) (fun K hK => ?_); go_simp; refine hK _ ?_; clear hK K
          iterate 4 (refine pc_pure rfl rfl (fun K hK => ?_); go_simp; refine hK _ ?_; clear hK K)
          refine pc_take (.int .i64 ts) rfl rfl (fun w' hS => exec_load1 (P := Tryz.prog) 3 _ rfl rfl ((HN.out w' hS).1.cell 2) Tryz.underlying3 rfl) (fun K hK => ?_); go_simp; refine hK _ ?_; clear hK K
          refine pc_take (.pointer (some ⟨jb, 0, none⟩)) rfl rfl (fun w' hS => exec_load1 (P := Tryz.prog) 36 _ rfl rfl ((HN.out w' hS).2.j.cell 0) Tryz.underlying36 rfl) (fun K hK => ?_); go_simp; refine hK _ ?_; clear hK K
          iterate 2 (refine pc_pure rfl rfl (fun K hK => ?_); go_simp; refine hK _ ?_; clear hK K)
          refine pc_take (.int .i64 (k : Int)) rfl rfl (fun w' hS => exec_load1 (P := Tryz.prog) 3 _ rfl rfl ((HN.out w' hS).2.s.cell 5) Tryz.underlying3 rfl) (fun K hK => ?_); go_simp; refine hK _ ?_; clear hK K
          iterate 1 (refine pc_pure rfl rfl (fun K hK => ?_); go_simp; refine hK _ ?_; clear hK K)
          iterate 2 (refine pc_pure rfl rfl (fun K hK => ?_); go_simp; refine hK _ ?_; clear hK K)
          iterate 4 (refine pc_skip rfl rfl (fun K hK => ?_); go_simp; refine hK _ ?_; clear hK K)
          refine pc_skipD rfl rfl (fun K hK => ?_); go_simp; refine hK _ ?_; clear hK K
          iterate 1 (refine pc_skip rfl rfl (fun K hK => ?_); go_simp; refine hK _ ?_; clear hK K)
          iterate 1 (refine pc_pure rfl rfl (fun K hK => ?_); go_simp; refine hK _ ?_; clear hK K)
          refine pc_nil ?_
          gi_wp2
          refine bodyPost_ret (results_none rfl _ _ _) rfl ?_
          obtain ⟨hch, hrec, hj, hs⟩ := HE.out
          have hlen := hch.len
          subst hlen
          exact ⟨⟨_, rfl⟩, n, R, ⟨hch, hrec⟩, hj, hs⟩
end Go.Proofs.YtijmkbhbpbkkoaaGreat

/- A range over journal.records: the law of the statement, for a body that counts the journal on and never ends the loop. -/
namespace Go.Proofs.YtijmkbhbpbkkoaaGreat
open Go.RowKit Go.Shelf

/-- how the body of a round is left -/
def recPost (d : Nat) (I S : World → Prop) (W : World) : Exit → Act → World → Prop
  | .normal, _, W' => (W'.heap[d]? = W.heap[d]? ∧ W'.heap[d + 1]? = W.heap[d + 1]?) ∧ I W' ∧ S W'
  | _, _, _ => False
set_option maxRecDepth 100000 in
set_option maxHeartbeats 3200000 in
theorem range_recs {g : Operand} {ps : Array Tmp} {assign body : Code} {Q : Exit → Act → World → Prop} {a : Act} {w : World} {Bb Bj jb m cc c : Nat} {A : Option Addr} {l : List Nat} {at_ size ep : Int}
    (hps : ps.size = 2) (hg : a.eval g = .func (.func 47) #[] #[.pointer (some ⟨Bb, 0, none⟩), .pointer (some ⟨Bj, 0, none⟩)])
    (hl : ∀ z ∈ l, z < 256) (hL : l.length = m) (hm : m ≤ 1000000) (hcc : m ≤ cc) (hcm : cc ≤ maxLen)
    (hAl : ∀ g, Of A g → g < w.heap.size) (hS0 : RC w Bb Bj jb A m cc l c at_ size ep 0 0)
    (I : Nat → Nat → List (List Nat) → World → Prop)
    (hI : ∀ k n R W W', I k n R W → Mod (fun k => k = w.heap.size ∨ k = w.heap.size + 1) W W' → I k n R W')
    (hi0 : I 0 0 [] w) (a₁ : Nat → Option Addr → Nat → Nat → Act)
    (hassign : ∀ (lp q : Nat) (A' : Option Addr) (L c' : Nat) (W : World) (K : Act → World → Prop), K (a₁ q A' L c') W →
      assign.wpIn (Fence.wide.inRound lp) 1 Tryz.prog (Exit.then K (fun _ _ _ => False)) { tmps := (ps.zip #[.int .i64 (q : Nat), .slice A' L c']).foldl (fun t (p, v) => t.setIfInBounds p v) a.tmps, defers := [] } W)
    (hbody : ∀ (lp k n : Nat) (R : List (List Nat)) (W : World) (A' : Option Addr) (L c' : Nat), IsChain l ep k n R → RecAt (l.drop (512 * n)) ep k → L = frLong (l.drop (512 * n)) → I k n R W → w.heap.size + 1 < W.heap.size → RC W Bb Bj jb A m cc l c at_ size ep n k →
      W.ownsRow (w.heap.size + 2) 5 1 (.slice A' L c') L (bv (frOf (l.drop (512 * n))).data) →
      body.wpIn (Fence.wide.inRound lp) 1 Tryz.prog (recPost w.heap.size (I (k + 1) (n + fsec L) (R ++ [(frOf (l.drop (512 * n))).data])) (fun W' => RC W' Bb Bj jb A m cc l c at_ size ep (n + fsec L) (k + 1)) W) (a₁ (fsec L) A' L c') W)
    (hdone : ∀ (n : Nat) (R : List (List Nat)) (W : World), AllRecs l ep n R → I R.length n R W → RC W Bb Bj jb A m cc l c at_ size ep n R.length → W.heap[w.heap.size]? = some (.deferred (some [])) → Q .normal { a with defers := { target := .collected w.heap.size, args := #[] } :: a.defers } W) :
    (Code.rangeFunc g ps assign body).wpIn Fence.wide 3 Tryz.prog Q a w := by
  refine wpIn_rangeFunc ?_
  intro fn hfn
  have hro : Fence.wide.round = none := rfl
  rw [hro]
  have hbl := hS0.b.lt
  have hjl := hS0.j.lt
  have hsl := hS0.s.lt
  obtain ⟨rec, hrec⟩ : ∃ rec : LoopState → Option Code → Loop, rec = fun st pe => { state := st, pending := pe, fn, tmps := a.tmps, params := ps, assign, body, defers := w.heap.size } := ⟨_, rfl⟩
  obtain ⟨W1, hW1⟩ : ∃ W1, (w.alloc (.deferred (some []))).alloc (.loop (rec .ready none)) = W1 := ⟨_, rfl⟩
  have hL1 : W1.heap[w.heap.size + 1]? = some (.loop (rec .ready none)) := by
    rw [← hW1]; have := World.alloc_heap_new (w.alloc (.deferred (some []))) (.loop (rec .ready none)); rwa [World.size_alloc] at this
  have hK1 : W1.heap[w.heap.size]? = some (.deferred (some [])) := by
    rw [← hW1]; exact (Below.heap_alloc _ _ _ (by simp)).trans (World.alloc_heap_new w _)
  have mW1 : Mod Nn w W1 := by rw [← hW1]; exact ((Mod.refl _ _).alloc _).alloc _
  have hI1 : I 0 0 [] W1 := hI _ _ _ _ _ hi0 mW1.nn
  have hS1 : RC W1 Bb Bj jb A m cc l c at_ size ep 0 0 := hS0.nn mW1
  refine ⟨w.heap.size + 1, [{ target := .collected w.heap.size, args := #[] }], W1, { target := .fn (.func 47) #[.pointer (some ⟨Bb, 0, none⟩), .pointer (some ⟨Bj, 0, none⟩)], args := #[.func (.yield (w.heap.size + 1)) #[] #[]] }, W1, 47,
    #[.func (.yield (w.heap.size + 1)) #[] #[], .pointer (some ⟨Bb, 0, none⟩), .pointer (some ⟨Bj, 0, none⟩)], W1, ?_, ?_, ?_, ?_, fun _ => by omega, ?_⟩
  · rw [← hW1, hrec]; exact run_enterLoop_outer _ _ _ _ _
  · simp only [resolve, hg]
    simp [go_sem]
  · intro f' _; trivial
  · simp [invoke, go_sem, enters_of Tryz.func47 (by kernel_rfl) rfl]
  · have nA : ∀ g, Of A g → ¬ At (w.heap.size + 1) g := fun g hg e => by have := hAl g hg; have e : g = w.heap.size + 1 := e; omega
    have nb : ¬ At (w.heap.size + 1) Bb := fun e => by have e : Bb = w.heap.size + 1 := e; omega
    have nj : ¬ At (w.heap.size + 1) Bj := fun e => by have e : Bj = w.heap.size + 1 := e; omega
    have ns : ¬ At (w.heap.size + 1) jb := fun e => by have e : jb = w.heap.size + 1 := e; omega
    refine (recs_in (w.heap.size + 1) Bb Bj jb m cc c (w.heap.size + 2) A l at_ size ep
      (fun k n R W => I k n R W ∧ W.heap[w.heap.size + 1]? = some (.loop (rec .ready none)) ∧ W.heap[w.heap.size]? = some (.deferred (some [])))
      hl hL hm hcc hcm ?_ (fun k n R W h => (Array.getElem?_eq_some_iff.1 h.2.1).1) ?_ W1 ⟨hI1, hL1, hK1⟩ hS1).mono ?_
    · rintro k n R W W' ⟨h2, h3, h4⟩ hm
      have hl : w.heap.size + 1 < W.heap.size := (Array.getElem?_eq_some_iff.1 h3).1
      exact ⟨hI _ _ _ _ _ h2 hm.nn, (hm.block _ hl (fun f => f)).trans h3, (hm.block _ (by omega) (fun f => f)).trans h4⟩
    · rintro k n R W A' L c' hch hr hLe ⟨h2, h3, h4⟩ hS hown
      have hlt : w.heap.size + 1 < W.heap.size := (Array.getElem?_eq_some_iff.1 h3).1
      have hy := run_yield (P := Tryz.prog) (args := #[.int .i64 (fsec L : Nat), .slice A' L c']) h3 (by rw [hrec]; exact hps.symm)
      rw [hrec] at hy
      refine ⟨fn, _, assign, body, hy, roundIn_of_wpIn hfn (hassign _ (fsec L) A' L c' W _ ⟨_, run_beginRound h3 (by rw [hrec]), ?_⟩)⟩
      have mb : Mod (At (w.heap.size + 1)) W (W.putObj (w.heap.size + 1) (.loop { rec .ready none with state := .busy })) := putObj_mod _ _ _
      have hl2 : (W.putObj (w.heap.size + 1) (.loop { rec .ready none with state := .busy })).heap[w.heap.size + 1]? = some (.loop { rec .ready none with state := .busy }) := World.putObj_heap_same hlt
      have hk2 : (W.putObj (w.heap.size + 1) (.loop { rec .ready none with state := .busy })).heap[w.heap.size]? = some (.deferred (some [])) := (World.putObj_heap_other (by omega)).trans h4
      have hown2 : (W.putObj (w.heap.size + 1) (.loop { rec .ready none with state := .busy })).ownsRow (w.heap.size + 2) 5 1 (.slice A' L c') L (bv (frOf (l.drop (512 * n))).data) := own_mod hown mb (fun g' hg' e => by
        have e : g' = w.heap.size + 1 := e
        subst e
        obtain ⟨_, _, _, _, hb', _⟩ := own_blk_eq hown hg'
        unfold Blk at hb'
        rw [h3] at hb'
        cases hb')
      refine wpIn_mono (hbody _ k n R _ A' L c' hch hr hLe (hI _ _ _ _ _ h2 (mb.mono (fun k _ hk => .inr hk))) (by simp; exact hlt) (hS.mod mb nb nj ns nA) hown2) ?_
      rintro e a3 W3 hp
      cases e with
      | normal =>
        obtain ⟨⟨k1, k2⟩, hi3, hs3⟩ := hp
        have hl3 := k2.trans hl2
        have hk3 := k1.trans hk2
        have hr := run_endRound (P := Tryz.prog) none hl3
        have m3 := putObj_mod W3 (w.heap.size + 1) (.loop { rec .ready none with state := if (none : Option Code).isNone then .ready else .done, pending := none })
        refine ⟨_, _, hr, rfl, ⟨hI _ _ _ _ _ hi3 (m3.mono (fun k _ hk => .inr hk)), ?_, ?_⟩, ?_⟩
        · refine (World.putObj_heap_same (Array.getElem?_eq_some_iff.1 hl3).1).trans ?_
          rw [hrec]; rfl
        · exact (World.putObj_heap_other (by omega)).trans hk3
        · exact hs3.mod m3 nb nj ns nA
      | ret => exact hp.elim
      | exit id => exact hp.elim
      | goto t => exact hp.elim
      | panic ch => exact hp.elim
      | outgrown => exact hp.elim
    · rintro e W2 ⟨⟨v, rfl⟩, n, R, hall, ⟨hi, hl, hk⟩, hs⟩
      refine ⟨none, _, by have := run_endLoop (P := Tryz.prog) hl (by rw [hrec]; simp); rw [hrec] at this; exact this, hdone n R _ hall (hI _ _ _ _ _ hi ((putObj_mod _ _ _).mono (fun k _ hk => .inr hk))) (hs.mod (putObj_mod _ _ _) nb nj ns nA) ((World.putObj_heap_other (by omega)).trans hk)⟩
end Go.Proofs.YtijmkbhbpbkkoaaGreat
