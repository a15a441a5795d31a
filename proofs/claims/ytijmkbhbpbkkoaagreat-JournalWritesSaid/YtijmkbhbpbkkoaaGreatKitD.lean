/- Own lemmas of several kinds, put together: Kit17, Kit18, Kit19, Kit20, Kit21. -/
import Derived.Test.YtijmkbhbpbkkoaaGreatKitB
import Derived.Lib.AppendStr
import Derived.Laws.CopyRow
import Derived.Great.BuildSlice
/- append in place: a row of bytes with noughts behind. No program is named. -/
namespace Go.Proofs.YtijmkbhbpbkkoaaGreat
open Go.RowKit Go.Lib

/-- block g has cap bytes, of which the first are L; noughts behind -/
structure Out (w : World) (g : Nat) (e : TypeId) (cap : Nat) (L : List Nat) : Prop where
  le : L.length ≤ cap
  blk : Blk w g e (bv (L ++ List.replicate (cap - L.length) 0)).toArray
section
variable {w w' : World} {g cap : Nat} {e : TypeId} {L M : List Nat} {S : Nat → Prop}
theorem bv_len (l : List Nat) : (bv l).length = l.length := by simp [bv]
theorem bv_append (l m : List Nat) : bv (l ++ m) = bv l ++ bv m := by simp [bv]
theorem out_list (h : L.length + M.length ≤ cap) :
    (bv (L ++ List.replicate (cap - L.length) 0)).take L.length ++ bv M ++ (bv (L ++ List.replicate (cap - L.length) 0)).drop (L.length + M.length) = bv ((L ++ M) ++ List.replicate (cap - (L ++ M).length) 0) := by
  rw [bv_append, List.take_left' (bv_len L), List.drop_append, List.drop_of_length_le (by rw [bv_len]; omega), List.nil_append, bv_len, bv_append, bv_append]
  congr 1
  unfold bv
  rw [← List.map_drop, List.drop_replicate, List.length_append]
  congr 2
  omega
theorem Out.mod (h : Out w g e cap L) (hm : Mod S w w') (hn : ¬ S g) : Out w' g e cap L := ⟨h.le, h.blk.mod hm hn⟩
theorem Out.lt (h : Out w g e cap L) : g < w.heap.size := h.blk.lt
theorem Out.size (h : Out w g e cap L) : (bv (L ++ List.replicate (cap - L.length) 0)).toArray.size = cap := by
  have := h.le
  simp [bv]; omega
theorem Out.rd (h : Out w g e cap L) {n : Nat} (hn : L.length = n) : Rd w (some ⟨g, 0, none⟩) n (bv L) := by
  subst hn
  refine Rd.of_blk h.blk 0 (bv_len L) (fun j v hv => ?_)
  rw [List.getElem?_toArray, Nat.zero_add, bv_append, List.getElem?_append_left (List.getElem?_eq_some_iff.1 hv).1]; exact hv
theorem Out.full (h : Out w g e cap L) : Rd w (some ⟨g, 0, none⟩) cap (bv (L ++ List.replicate (cap - L.length) 0)) :=
  Rd.of_blk0 h.blk (by have := h.le; rw [bv_len, List.length_append, List.length_replicate]; omega)
theorem Out.new {n : Nat} (h : Blk w g e (Array.replicate n (Value.int .u8 0))) : Out w g e n [] := ⟨Nat.zero_le _, by
  have : (bv ([] ++ List.replicate (n - ([] : List Nat).length) 0)).toArray = Array.replicate n (Value.int .u8 0) := by simp [bv]
  rw [this]; exact h⟩
theorem bv_one (l : List Nat) : ∀ u ∈ bv l, u.oneCell' = true := by intro u hu; obtain ⟨_, _, rfl⟩ := List.mem_map.1 hu; rfl
theorem own_nil (w : World) (base : Nat) (e : TypeId) (s : Nat) : w.ownsRow base e s (.slice none 0 0) 0 [] := ⟨by simp, .inl ⟨rfl, rfl⟩⟩
theorem own_ge {base n s : Nat} {v : Value} {xs : List Value} (h : w.ownsRow base e s v n xs) : ∀ g, v.ownBlock = some g → base ≤ g := fun g hg => by
  obtain ⟨A, c, rfl, _, hA⟩ := own_form h
  exact (hA g (own_of hg)).1
variable {P : Program}
theorem setRow_size (w : World) (g : Nat) (cs : Array Value) : (w.setRow g cs).heap.size = w.heap.size := by simp
variable {o : Oper} {a : Act}
theorem exec_append_out (t : TypeId) (s x : Operand) (ho : o.op = .call { callee := .builtin .append, args := #[s, x], argTypes := #[t, t] })
    (ht : P.underlying t = some (.slice e)) (hi : (P.info? e).map (fun i => (i.zero, i.size, i.bytes)) = some (some (.int .u8 0), 1, 1))
    (h : Out w g e cap L) {n : Nat} (hn : L.length = n) (hs : a.eval s = .slice (some ⟨g, 0, none⟩) n cap) {A : Option Addr} {m c : Nat} (hx : a.eval x = .slice A m c) (hr : Rd w A m (bv M)) (hroom : n + m ≤ cap) :
    ∃ w', (execOp a.eval o).run P w = .ok (.value (.slice (some ⟨g, 0, none⟩) (n + m) cap)) w' ∧ Out w' g e cap (L ++ M) ∧ Mod (At g) w w' ∧ w'.heap.size = w.heap.size := by
  obtain ⟨i, hii, hz, hsz, hby⟩ := info_parts hi
  have hm : M.length = m := by rw [← bv_len]; exact hr.1
  have key : ∃ w', (Builtin.append_ #[t, t] o.type #[.slice (some ⟨g, 0, none⟩) n cap, .slice A m c]).run P w = .ok (.slice (some ⟨g, 0, none⟩) (n + m) cap) w' ∧ Out w' g e cap (L ++ M) ∧ Mod (At g) w w' ∧ w'.heap.size = w.heap.size := by
    by_cases hA : ∃ ad, A = some ad
    · obtain ⟨ad, rfl⟩ := hA
      have hcells : ∀ j u, (bv M)[j]? = some u → w.cell? (ad.add j) = some u := by
        intro j u hu
        rcases Nat.eq_zero_or_pos m with h0 | h0
        · have := List.eq_nil_of_length_eq_zero (hr.1.trans h0)
          rw [this] at hu; simp at hu
        · obtain ⟨g', off, h, hc⟩ := hr.2 h0
          injection h with h; subst h
          have hadd : (⟨g', off, none⟩ : Addr).add j = ⟨g', off + j, none⟩ := by unfold Addr.add; split <;> simp_all
          rw [hadd]; exact hc j u hu
      have hr' := run_append_room (P := P) w t o.type e i ht hii g n cap _ h.blk ad m c (bv M) (by rw [hr.1, hsz, Nat.mul_one]) hcells (by intro u hu; obtain ⟨_, _, rfl⟩ := List.mem_map.1 hu; rfl) hroom (by rw [h.size, hsz, Nat.mul_one, hr.1]; exact hroom)
      refine ⟨_, hr', ⟨by rw [List.length_append]; omega, ?_⟩, Mod.rowAt _ _ _, by simp⟩
      rw [hsz, Nat.mul_one, bv_len, ← hn, List.toList_toArray, out_list (by omega)]
      exact h.blk.setRow_ _
    · have hA' : A = none := by cases A with | none => rfl | some a => exact absurd ⟨a, rfl⟩ hA
      subst hA'
      have hm0 : m = 0 := by
        rcases Nat.eq_zero_or_pos m with h0 | h0
        · exact h0
        · obtain ⟨_, _, h, _⟩ := hr.2 h0; cases h
      have hM : M = [] := List.eq_nil_of_length_eq_zero (hm.trans hm0)
      subst hM; subst hm0
      refine ⟨w, ?_, by rw [List.append_nil]; exact h, Mod.refl _ _, rfl⟩
      have hroom' : n ≤ cap := by omega
      simp [Builtin.append_, run_underlying ht, sizeOf, typeInfo, hii, Builtin.lenOf, Builtin.firstCells, hroom', storeCells]
  obtain ⟨w', h1, h2, h3, h4⟩ := key
  exact ⟨w', by simp [execOp, ho, resolve, invoke, builtin, hs, hx, h1, Result.andThen], h2, h3, h4⟩
theorem exec_append_outs (t u : TypeId) (s x : Operand) (ho : o.op = .call { callee := .builtin .append, args := #[s, x], argTypes := #[t, u] })
    (ht : P.underlying t = some (.slice e)) (hu : P.underlying u = some .string) (hi : (P.info? e).map (fun i => (i.zero, i.size, i.bytes)) = some (some (.int .u8 0), 1, 1))
    (h : Out w g e cap L) {n : Nat} (hn : L.length = n) (hs : a.eval s = .slice (some ⟨g, 0, none⟩) n cap) {b : ByteArray} (hx : a.eval x = .string b) (hr : strCells b = bv M) {m : Nat} (hm : b.size = m) (hroom : n + m ≤ cap) :
    ∃ w', (execOp a.eval o).run P w = .ok (.value (.slice (some ⟨g, 0, none⟩) (n + m) cap)) w' ∧ Out w' g e cap (L ++ M) ∧ Mod (At g) w w' ∧ w'.heap.size = w.heap.size := by
  obtain ⟨i, hii, hz, hsz, hby⟩ := info_parts hi
  subst hm
  have hml : M.length = b.size := by rw [← bv_len, ← hr, strCells_length]
  have hr' := run_append_room_string (P := P) w t u o.type e i ht hu hii hsz g n cap _ h.blk b hroom (by rw [h.size]; exact hroom)
  obtain ⟨w', h1, h2, h3, h4⟩ : ∃ w', (Builtin.append_ #[t, u] o.type #[.slice (some ⟨g, 0, none⟩) n cap, .string b]).run P w = .ok (.slice (some ⟨g, 0, none⟩) (n + b.size) cap) w' ∧ Out w' g e cap (L ++ M) ∧ Mod (At g) w w' ∧ w'.heap.size = w.heap.size := by
    refine ⟨_, hr', ⟨by rw [List.length_append]; omega, ?_⟩, Mod.rowAt _ _ _, by simp⟩
    rw [hr, ← hn, List.toList_toArray, ← hml, out_list (by omega)]
    exact h.blk.setRow_ _
  exact ⟨w', by simp [execOp, ho, resolve, invoke, builtin, hs, hx, h1, Result.andThen], h2, h3, h4⟩
variable {ops : Array Oper} {rest : List Oper} {Q : Exit → Act → World → Prop}
theorem wpList_append_out (t : TypeId) (s x : Operand) (hg : Region.wanted o (yielded ops a.tmps) = true) (ho : o.op = .call { callee := .builtin .append, args := #[s, x], argTypes := #[t, t] })
    (ht : P.underlying t = some (.slice e)) (hi : (P.info? e).map (fun i => (i.zero, i.size, i.bytes)) = some (some (.int .u8 0), 1, 1))
    (h : Out w g e cap L) {n : Nat} (hn : L.length = n) (hs : a.eval s = .slice (some ⟨g, 0, none⟩) n cap) {A : Option Addr} {m c : Nat} (hx : a.eval x = .slice A m c) (hr : Rd w A m (bv M)) (hroom : n + m ≤ cap)
    (hK : ∀ w', Out w' g e cap (L ++ M) → Mod (At g) w w' → w'.heap.size = w.heap.size → wpList P ops Q rest (a.put o.dst (.slice (some ⟨g, 0, none⟩) (n + m) cap)) w') : wpList P ops Q (o :: rest) a w := by
  obtain ⟨w', h1, h2, h3, h4⟩ := exec_append_out (P := P) t s x ho ht hi h hn hs hx hr hroom
  exact wpList_val hg h1 (hK w' h2 h3 h4)
theorem wpList_append_outs (t u : TypeId) (s x : Operand) (hg : Region.wanted o (yielded ops a.tmps) = true) (ho : o.op = .call { callee := .builtin .append, args := #[s, x], argTypes := #[t, u] })
    (ht : P.underlying t = some (.slice e)) (hu : P.underlying u = some .string) (hi : (P.info? e).map (fun i => (i.zero, i.size, i.bytes)) = some (some (.int .u8 0), 1, 1))
    (h : Out w g e cap L) {n : Nat} (hn : L.length = n) (hs : a.eval s = .slice (some ⟨g, 0, none⟩) n cap) {b : ByteArray} (hx : a.eval x = .string b) (hr : strCells b = bv M) {m : Nat} (hm : b.size = m) (hroom : n + m ≤ cap)
    (hK : ∀ w', Out w' g e cap (L ++ M) → Mod (At g) w w' → w'.heap.size = w.heap.size → wpList P ops Q rest (a.put o.dst (.slice (some ⟨g, 0, none⟩) (n + m) cap)) w') : wpList P ops Q (o :: rest) a w := by
  obtain ⟨w', h1, h2, h3, h4⟩ := exec_append_outs (P := P) t u s x ho ht hu hi h hn hs hx hr hm hroom
  exact wpList_val hg h1 (hK w' h2 h3 h4)
end
/-! ## append to a slice without room: new memory, whatever the slice's row is -/
section
variable {P : Program} {w : World} {o : Oper} {a : Act}
theorem exec_append_grow (t : TypeId) (s x : Operand) (ho : o.op = .call { callee := .builtin .append, args := #[s, x], argTypes := #[t, t] })
    (e : TypeId) (z : Value) (size bytes : Nat) (ht : P.underlying t = some (.slice e)) (hi : (P.info? e).map (fun i => (i.zero, i.size, i.bytes)) = some (some z, size, bytes)) (hzs : z.cells.size = size) (hsz : 0 < size)
    {A : Option Addr} {n cap : Nat} {xs : List Value} (hs : a.eval s = .slice A n cap) (hx0 : RdC w A n size xs) {B : Option Addr} {m c : Nat} {news : List Value} (hx : a.eval x = .slice B m c) (hr : RdC w B m size news) (hm0 : 0 < m) (hn0 : 0 < n)
    (hroom : cap < n + m) (hbytes : (n + m) * bytes ≤ 140737488355328) (h63 : n + m ≤ 140737488355328) :
    ∃ v' w', (execOp a.eval o).run P w = .ok (.value v') w' ∧ w'.ownsRow w.heap.size e size v' (n + m) (xs ++ news) ∧ Mod Nn w w' := by
  obtain ⟨i, hii, hz, hss, hby⟩ := info_parts hi
  clear hi
  have h63' : n + m ≤ maxLen := by simp only [maxLen]; omega
  subst hss; subst hby
  obtain ⟨ga, off, rfl, hc⟩ := hr.2 hm0
  have hnews : ∀ j u, news[j]? = some u → w.cell? ((⟨ga, off, none⟩ : Addr).add j) = some u := by
    intro j u hu
    have hadd : (⟨ga, off, none⟩ : Addr).add j = ⟨ga, off + j, none⟩ := by unfold Addr.add; split <;> simp_all
    rw [hadd]; exact hc j u hu
  obtain ⟨gb, offb, rfl, hcb⟩ := hx0.2 hn0
  have holds : ∀ j u, xs[j]? = some u → w.cell? ((⟨gb, offb, none⟩ : Addr).add j) = some u := by
    intro j u hu
    have hadd : (⟨gb, offb, none⟩ : Addr).add j = ⟨gb, offb + j, none⟩ := by unfold Addr.add; split <;> simp_all
    rw [hadd]; exact hcb j u hu
  have hl := hr.1
  have hlen : (xs ++ news).length = (n + m) * i.size := by rw [List.length_append, hx0.1, hl, Nat.add_mul]
  have hr' := run_append_grow (P := P) w t o.type e i z ht hii hz ⟨gb, offb, none⟩ n cap xs hx0.1 holds ⟨ga, off, none⟩ m c news hl hnews (by omega) (by omega) (growslice_fits (by omega) hbytes)
  obtain ⟨v', w', h1, h2, h3⟩ : ∃ v' w', (Builtin.append_ #[t, t] o.type #[.slice (some ⟨gb, offb, none⟩) n cap, .slice (some ⟨ga, off, none⟩) m c]).run P w = .ok v' w' ∧ w'.ownsRow w.heap.size e i.size v' (n + m) (xs ++ news) ∧ Mod Nn w w' := by
    refine ⟨_, _, hr', ⟨hlen, .inr ⟨w.heap.size, _, _, rfl, Nat.le_refl _, heap_alloc_new w.drew _, grownCap_ge w (n + m) cap e, grownCap_le_maxLen w (n + m) cap e h63', ?_, ?_⟩⟩, ((Mod.refl Nn w).drew).alloc _⟩
    · have hge := grownCap_ge w (n + m) cap e
      simp only [Array.size_append, List.size_toArray, size_zeroCells, hzs, hx0.1, hl, ← Nat.add_mul]
      congr 1
      omega
    · simp only [Array.toList_append, List.append_assoc]
      rw [← List.append_assoc, ← hlen]
      exact List.take_left
  exact ⟨v', w', by simp [execOp, ho, resolve, invoke, builtin, hs, hx, h1, Result.andThen], h2, h3⟩
variable {ops : Array Oper} {rest : List Oper} {Q : Exit → Act → World → Prop}
theorem wpList_append_grow (t : TypeId) (s x : Operand) (hg : Region.wanted o (yielded ops a.tmps) = true) (ho : o.op = .call { callee := .builtin .append, args := #[s, x], argTypes := #[t, t] })
    (e : TypeId) (z : Value) (size bytes : Nat) (ht : P.underlying t = some (.slice e)) (hi : (P.info? e).map (fun i => (i.zero, i.size, i.bytes)) = some (some z, size, bytes)) (hzs : z.cells.size = size) (hsz : 0 < size)
    {A : Option Addr} {n cap : Nat} {xs : List Value} (hs : a.eval s = .slice A n cap) (hx0 : RdC w A n size xs) {B : Option Addr} {m c : Nat} {news : List Value} (hx : a.eval x = .slice B m c) (hr : RdC w B m size news) (hm0 : 0 < m) (hn0 : 0 < n)
    (hroom : cap < n + m) (hbytes : (n + m) * bytes ≤ 140737488355328) (h63 : n + m ≤ 140737488355328)
    (hK : ∀ v' w', w'.ownsRow w.heap.size e size v' (n + m) (xs ++ news) → Mod Nn w w' → wpList P ops Q rest (a.put o.dst v') w') : wpList P ops Q (o :: rest) a w := by
  obtain ⟨v', w', h1, h2, h3⟩ := exec_append_grow (P := P) t s x ho e z size bytes ht hi hzs hsz hs hx0 hx hr hm0 hn0 hroom hbytes h63
  exact wpList_val hg h1 (hK v' w' h2 h3)
end
end Go.Proofs.YtijmkbhbpbkkoaaGreat

/- A region that draws its order, by a plan that forks where two operations act in either order (Kit12's law over trees). No program is named. -/
namespace Go.Proofs.YtijmkbhbpbkkoaaGreat
open Go.RowKit

/-- pure: it reads nothing; read: it reads, and c waits for it; quiet: it calls what only reads, and c waits for it; alone: it comes up alone; fork: one of two comes up -/
inductive PTree where
  | nil : PTree
  | pure : Nat → PTree → PTree
  | read : Nat → PTree → PTree
  | quiet : Nat → PTree → PTree
  | alone : Nat → PTree → PTree
  | fork : Nat → Nat → PTree → PTree → PTree
section
variable {P : Program} {ops : Array Oper} {Q : Exit → Act → World → Prop} {md : Region.Mode} {S : World → Prop} {c : Nat}
/-- in every world that meets S it yields v, or calls what tells v, and leaves the world alone -/
def QuietIf (P : Program) (ops : Array Oper) (S : World → Prop) (o : Oper) (v : Value) (a : Act) : Prop :=
  (Region.wanted o (yielded ops a.tmps) = true ∧ ∀ w, S w → ∃ f args, (execOp a.eval o).run P w = .ok (.enter f args) w ∧ Calls P f args w fun e w' => e = .returned v ∧ w = w') ∨
  (Region.wanted o (yielded ops a.tmps) = false ∧ v = undef)
theorem QuietIf.wpOp {i : Nat} {o : Oper} {v : Value} {a : Act} (hi : ops[i]? = some o) (hy : QuietIf P ops S o v a) {K : Act → World → Prop} {w : World} (hS : S w) (h : K (a.put o.dst v) w) : wpOp P ops Q i K a w := by
  unfold Go.wpOp
  simp only [hi]
  rcases hy with ⟨hw, hv⟩ | ⟨hw, rfl⟩
  · obtain ⟨f, args, hr, hc⟩ := hv w hS
    rw [if_pos hw]
    refine .inl ?_
    unfold Oper.wp
    rw [hr]
    exact hc.mono fun e w' ⟨he, hw'⟩ => by subst he; subst hw'; exact h
  · rw [if_neg (by rw [hw]; exact Bool.false_ne_true)]
    exact h
theorem QuietIf.of_same {o : Oper} {v : Value} {a a' : Act} (hy : QuietIf P ops S o v a) (he : execOp a'.eval o = execOp a.eval o)
    (hw : Region.wanted o (yielded ops a'.tmps) = Region.wanted o (yielded ops a.tmps)) : QuietIf P ops S o v a' := by
  unfold QuietIf at *
  rw [he, hw]
  exact hy
theorem wpOp_putQ {j : Nat} {oi oj : Oper} {v : Value} (hj : ops[j]? = some oj) (hap : oi.apart ops oj = true)
    (hsi : ∀ cs b, oi.op ≠ .select cs b) (hsj : ∀ cs b, oj.op ≠ .select cs b)
    (hQ : ∀ c a w, Q (.panic c) (a.put oi.dst v) w → Q (.panic c) a w) {K : Act → World → Prop} {a : Act} {w : World}
    (hy : QuietIf P ops S oi v a) (h : wpOp P ops Q j K (a.put oi.dst v) w) :
    wpOp P ops Q j (fun a' w' => QuietIf P ops S oi v a' ∧ K (a'.put oi.dst v) w') a w := by
  obtain ⟨h1, h2, h3⟩ := Oper.apart_spec hap
  have keep : ∀ (a : Act), QuietIf P ops S oi v a → ∀ u, QuietIf P ops S oi v (a.put oj.dst u) := fun a hy u =>
    hy.of_same (execOp_put oi hsi a oj.dst u h3) (wanted_put oi a oj.dst u h3)
  have keepD : ∀ d, QuietIf P ops S oi v { a with defers := d :: a.defers } := fun d => hy.of_same rfl rfl
  unfold Go.wpOp at *
  simp only [hj] at *
  rw [wanted_put oj a oi.dst v h1] at h
  by_cases hw : Region.wanted oj (yielded ops a.tmps) = true
  · rw [if_pos hw] at h ⊢
    rcases h with h | ⟨hasks, hlets⟩
    · refine .inl ?_
      unfold Oper.wp at *
      rw [execOp_put oj hsj a oi.dst v h1] at h
      generalize (execOp a.eval oj).run P w = r at *
      cases r with
      | ok n w' =>
        cases n <;> simp only [Oper.upon] at h ⊢
        case value u => exact ⟨keep a hy u, by rw [← Act.put_comm a v u h2]; exact h⟩
        case skip => exact ⟨keep a hy _, by rw [← Act.put_comm a v undef h2]; exact h⟩
        case defer d =>
          refine ⟨keep _ (keepD d) _, ?_⟩
          rw [← Act.put_comm _ v undef h2, ← Act.put_defers]
          exact h
        case enter f args =>
          refine Calls.mono h fun e w'' he => ?_
          cases e with
          | returned u => exact ⟨keep a hy u, by rw [← Act.put_comm a v u h2]; exact he⟩
          | panicked c => exact hQ _ _ _ he
          | outgrown => exact he
        case row row args => exact Rows.mono h fun u w'' he => ⟨keep a hy u, by rw [← Act.put_comm a v u h2]; exact he⟩
      | halt x w' =>
        cases x <;> simp only [Oper.upon] at h ⊢
        case panic u => exact hQ _ _ _ h
    · exact .inr ⟨by unfold Oper.asks at *; rw [execOp_put oj hsj a oi.dst v h1] at hasks; exact hasks, hlets⟩
  · rw [if_neg hw] at h ⊢
    exact ⟨keep a hy _, by rw [← Act.put_comm a v undef h2]; exact h⟩
theorem wpT_firstQ {T : World → Prop} {i : Nat} {oi : Oper} {v : Value} (hi : ops[i]? = some oi) (hsel : ∀ (j : Nat) (o : Oper) cs b, ops[j]? = some o → o.op ≠ .select cs b)
    (hQ : ∀ c a w, Q (.panic c) (a.put oi.dst v) w → Q (.panic c) a w) (hic : i ≠ c)
    (hT : ∀ (L : Array Bool) (w : World), Closed md ops L → L.getD i true = false → (L.getD c false = false → S w) → T w) :
    ∀ (n : Nat) (L : Array Bool) (a : Act) (w : World), (∀ j oj, ops[j]? = some oj → j ≠ i → L.getD j true = false → (∀ e ∈ oj.after, Region.binds md e = true → e.on ≠ i) → oi.apart ops oj = true) →
      i ∈ Region.ready md ops L → Closed md ops L → QuietIf P ops T oi v a → (L.getD c false = false → S w) →
      wpT P md ops Q S c n (L.setIfInBounds i true) (a.put oi.dst v) w → wpT P md ops Q S c (n + 1) L a w := by
  intro n
  induction n with
  | zero =>
    intro L a w _ hr hC hy hS H
    refine ⟨fun h => (by rw [h] at hr; cases hr), fun j hj => ?_⟩
    by_cases hji : j = i
    · subst hji
      exact hy.wpOp hi (hT L w hC (mem_ready.1 hr).1 hS) ⟨fun h => hS (by rw [← getD_set_ne false hic]; exact h), H⟩
    · have := ready_mono hj hji
      rw [H.1] at this
      cases this
  | succ n ih =>
    intro L a w hfree hr hC hy hS H
    refine ⟨fun h => (by rw [h] at hr; cases hr), fun j hj => ?_⟩
    by_cases hji : j = i
    · subst hji
      exact hy.wpOp hi (hT L w hC (mem_ready.1 hr).1 hS) ⟨fun h => hS (by rw [← getD_set_ne false hic]; exact h), H⟩
    · have h1 := H.2 j (ready_mono hj hji)
      obtain ⟨hjun, oj, hoj, hall⟩ := mem_ready.1 hj
      have hiun := getD_two (mem_ready.1 hr).1
      have hnot : ∀ e ∈ oj.after, Region.binds md e = true → e.on ≠ i := fun e he hb heq => by
        have h2 := hall e he hb
        rw [heq, hiun] at h2
        cases h2
      have h2 := wpOp_putQ hoj (hfree j oj hoj hji hjun hnot) (fun cs b => hsel i oi cs b hi) (fun cs b => hsel j oj cs b hoj) hQ hy h1
      have hfree' : ∀ k ok, ops[k]? = some ok → k ≠ i → (L.setIfInBounds j true).getD k true = false → (∀ e ∈ ok.after, Region.binds md e = true → e.on ≠ i) → oi.apart ops ok = true := fun k ok hk hki hun hno => by
        refine hfree k ok hk hki ?_ hno
        by_cases hjk : j = k
        · subst hjk; exact hjun
        · rw [getD_set_ne true hjk] at hun; exact hun
      have hcomm : (L.setIfInBounds i true).setIfInBounds j true = (L.setIfInBounds j true).setIfInBounds i true := (Array.setIfInBounds_comm _ _ (Ne.symm hji))
      refine wpOp_mono (fun a' w' h3 => ?_) h2
      have hS' : (L.setIfInBounds j true).getD c false = false → S w' := fun h => h3.2.1 (by rw [hcomm, getD_set_ne false hic]; exact h)
      refine ⟨hS', ih (L.setIfInBounds j true) a' w' hfree' (ready_mono hr (Ne.symm hji)) (hC.set hj) h3.1 hS' ?_⟩
      rw [← hcomm]
      exact h3.2.2
def planV (md : Region.Mode) (ops : Array Oper) (c : Nat) : PTree → Nat → Array Bool → Bool
  | .nil, n, L => n == 0 && (Region.ready md ops L) == []
  | .pure k t, n, L => (n != 0) && Region.free md ops L k && (Region.ready md ops L).contains k && (k != c) && planV md ops c t (n - 1) (L.setIfInBounds k true)
  | .read k t, n, L => (n != 0) && Region.free md ops L k && (Region.ready md ops L).contains k && (k != c) && waits md ops k ops.size c && planV md ops c t (n - 1) (L.setIfInBounds k true)
  | .quiet k t, n, L => (n != 0) && Region.free md ops L k && (Region.ready md ops L).contains k && (k != c) && waits md ops k ops.size c && planV md ops c t (n - 1) (L.setIfInBounds k true)
  | .alone k t, n, L => (n != 0) && (Region.ready md ops L) == [k] && planV md ops c t (n - 1) (L.setIfInBounds k true)
  | .fork k j t u, n, L => (n != 0) && ((Region.ready md ops L) == [k, j] || (Region.ready md ops L) == [j, k]) && planV md ops c t (n - 1) (L.setIfInBounds k true) && planV md ops c u (n - 1) (L.setIfInBounds j true)
/-- k comes up here -/
def wpAl (P : Program) (ops : Array Oper) (Q : Exit → Act → World → Prop) (S : World → Prop) (c k : Nat) (d : Bool) (K : Act → World → Prop) (a : Act) (w : World) : Prop :=
  ∃ o, ops[k]? = some o ∧ ((Region.wanted o (yielded ops a.tmps) = true ∧ o.wp P a w (fun a' w' => ((d || k == c) = false → S w') ∧ K a' w') Q) ∨
      (Region.wanted o (yielded ops a.tmps) = false ∧ K (a.put o.dst undef) w))
def wpPV (P : Program) (ops : Array Oper) (Q : Exit → Act → World → Prop) (S : World → Prop) (c : Nat) : PTree → Bool → Act → World → Prop
  | .nil, _, a, w => Q .normal a w
  | .pure k t, d, a, w => ∃ o, ops[k]? = some o ∧ ∃ v, YieldsIf P ops (fun _ => True) o v a ∧ wpPV P ops Q S c t d (a.put o.dst v) w
  | .read k t, d, a, w => ∃ o, ops[k]? = some o ∧ ∃ v, YieldsIf P ops S o v a ∧ wpPV P ops Q S c t d (a.put o.dst v) w
  | .quiet k t, d, a, w => ∃ o, ops[k]? = some o ∧ ∃ v, QuietIf P ops S o v a ∧ wpPV P ops Q S c t d (a.put o.dst v) w
  | .alone k t, d, a, w => wpAl P ops Q S c k d (wpPV P ops Q S c t (d || k == c)) a w
  | .fork k j t u, d, a, w => wpAl P ops Q S c k d (wpPV P ops Q S c t (d || k == c)) a w ∧ wpAl P ops Q S c j d (wpPV P ops Q S c u (d || j == c)) a w

theorem wpOp_al {k n : Nat} {d : Bool} {L : Array Bool} {K : Act → World → Prop} {a : Act} {w : World} (hd' : (L.setIfInBounds k true).getD c false = (d || k == c)) (hS : d = false → S w)
    (hK : ∀ a' w', ((d || k == c) = false → S w') → K a' w' → wpT P md ops Q S c n (L.setIfInBounds k true) a' w') (h : wpAl P ops Q S c k d K a w) :
    wpOp P ops Q k (fun a' w' => ((L.setIfInBounds k true).getD c false = false → S w') ∧ wpT P md ops Q S c n (L.setIfInBounds k true) a' w') a w := by
  obtain ⟨o, h0, h⟩ := h
  unfold wpOp
  simp only [h0]
  rcases h with ⟨hw, h⟩ | ⟨hw, h⟩
  · rw [if_pos hw]
    exact .inl (Oper.wp_mono (fun a' w' h' => ⟨fun h => h'.1 (hd' ▸ h), hK a' w' h'.1 h'.2⟩) h)
  · rw [if_neg (by rw [hw]; exact Bool.false_ne_true)]
    have hS' : (d || k == c) = false → S w := fun h => hS (by cases d <;> simp_all)
    exact ⟨fun h => hS' (hd' ▸ h), hK _ _ hS' h⟩
theorem getD_al {k : Nat} {d : Bool} {L : Array Bool} (hsz : L.size = ops.size) (hcs : c < ops.size) (hd : L.getD c false = d) : (L.setIfInBounds k true).getD c false = (d || k == c) := by
  by_cases hkc : k = c
  · subst hkc
    simp [hsz, hcs]
  · rw [getD_set_ne false hkc, hd]; simp [hkc]
theorem wpT_planV (hs : Region.noSelect ops = true) (hQ : ∀ c a d v w, Q (.panic c) (Act.put a d v) w → Q (.panic c) a w) (hcs : c < ops.size) :
    ∀ (t : PTree) (n : Nat) (L : Array Bool) (d : Bool) (a : Act) (w : World), L.size = ops.size → L.getD c false = d → Closed md ops L → (d = false → S w) → planV md ops c t n L = true → wpPV P ops Q S c t d a w → wpT P md ops Q S c n L a w
  | .nil, n, L, d, a, w, _, _, _, _, hB, h => by
    simp only [planV, Bool.and_eq_true, beq_iff_eq] at hB
    obtain ⟨hn, hB⟩ := hB
    subst hn
    exact ⟨hB, h⟩
  | .pure k t, n, L, d, a, w, hsz, hd, hC, hS, hB, h => by
    simp only [planV, Bool.and_eq_true, bne_iff_ne, ne_eq] at hB
    obtain ⟨⟨⟨⟨h0', h1⟩, h2⟩, h3⟩, h4⟩ := hB
    obtain ⟨m, rfl⟩ : ∃ m, n = m + 1 := ⟨n - 1, by omega⟩
    obtain ⟨o, h0, v, hy, hK⟩ := h
    have hr : k ∈ Region.ready md ops L := by simpa using h2
    refine wpT_first h0 (Region.noSelect_spec hs) (fun c a w => hQ c a o.dst v w) h3 (fun _ _ _ _ _ => trivial) _ L a w (Region.free_spec h0 h1) hr hC hy (fun h => hS (hd ▸ h)) ?_
    exact wpT_planV hs hQ hcs t m _ d _ _ (by rw [Array.size_setIfInBounds]; exact hsz) (by rw [getD_set_ne false h3]; exact hd) (hC.set hr) hS h4 hK
  | .read k t, n, L, d, a, w, hsz, hd, hC, hS, hB, h => by
    simp only [planV, Bool.and_eq_true, bne_iff_ne, ne_eq] at hB
    obtain ⟨⟨⟨⟨⟨h0', h1⟩, h2⟩, h3⟩, hw⟩, h4⟩ := hB
    obtain ⟨m, rfl⟩ : ∃ m, n = m + 1 := ⟨n - 1, by omega⟩
    obtain ⟨o, h0, v, hy, hK⟩ := h
    have hr : k ∈ Region.ready md ops L := by simpa using h2
    refine wpT_first h0 (Region.noSelect_spec hs) (fun c a w => hQ c a o.dst v w) h3 (fun L' w' hC' hi' hS' => hS' ?_) _ L a w (Region.free_spec h0 h1) hr hC hy (fun h => hS (hd ▸ h)) ?_
    · cases hl : L'.getD c false with
      | false => rfl
      | true =>
        have := waits_spec hC' _ _ hw hl
        rw [getD_two hi'] at this
        cases this
    · exact wpT_planV hs hQ hcs t m _ d _ _ (by rw [Array.size_setIfInBounds]; exact hsz) (by rw [getD_set_ne false h3]; exact hd) (hC.set hr) hS h4 hK
  | .quiet k t, n, L, d, a, w, hsz, hd, hC, hS, hB, h => by
    simp only [planV, Bool.and_eq_true, bne_iff_ne, ne_eq] at hB
    obtain ⟨⟨⟨⟨⟨h0', h1⟩, h2⟩, h3⟩, hw⟩, h4⟩ := hB
    obtain ⟨m, rfl⟩ : ∃ m, n = m + 1 := ⟨n - 1, by omega⟩
    obtain ⟨o, h0, v, hy, hK⟩ := h
    have hr : k ∈ Region.ready md ops L := by simpa using h2
    refine wpT_firstQ h0 (Region.noSelect_spec hs) (fun c a w => hQ c a o.dst v w) h3 (fun L' w' hC' hi' hS' => hS' ?_) _ L a w (Region.free_spec h0 h1) hr hC hy (fun h => hS (hd ▸ h)) ?_
    · cases hl : L'.getD c false with
      | false => rfl
      | true =>
        have := waits_spec hC' _ _ hw hl
        rw [getD_two hi'] at this
        cases this
    · exact wpT_planV hs hQ hcs t m _ d _ _ (by rw [Array.size_setIfInBounds]; exact hsz) (by rw [getD_set_ne false h3]; exact hd) (hC.set hr) hS h4 hK
  | .alone k t, n, L, d, a, w, hsz, hd, hC, hS, hB, h => by
    simp only [planV, Bool.and_eq_true, bne_iff_ne, ne_eq, beq_iff_eq] at hB
    obtain ⟨⟨h0', hr⟩, hB⟩ := hB
    obtain ⟨m, rfl⟩ : ∃ m, n = m + 1 := ⟨n - 1, by omega⟩
    have hk : k ∈ Region.ready md ops L := by rw [hr]; simp
    have hd' := getD_al (k := k) hsz hcs hd
    refine ⟨fun h0 => (by rw [hr] at h0; cases h0), fun i hi => ?_⟩
    rw [hr, List.mem_singleton] at hi
    subst hi
    exact wpOp_al hd' hS (fun a' w' hS' hK => wpT_planV hs hQ hcs t m _ _ a' w' (by rw [Array.size_setIfInBounds]; exact hsz) hd' (hC.set hk) hS' hB hK) h
  | .fork k j t u, n, L, d, a, w, hsz, hd, hC, hS, hB, h => by
    simp only [planV, Bool.and_eq_true, bne_iff_ne, ne_eq, Bool.or_eq_true, beq_iff_eq] at hB
    obtain ⟨⟨⟨h0', hr⟩, hB1⟩, hB2⟩ := hB
    obtain ⟨m, rfl⟩ : ∃ m, n = m + 1 := ⟨n - 1, by omega⟩
    have hm : ∀ i, i ∈ Region.ready md ops L ↔ i = k ∨ i = j := by
      intro i
      rcases hr with hr | hr <;> rw [hr] <;> simp <;> constructor <;> rintro (h | h) <;> simp [h]
    have hk : k ∈ Region.ready md ops L := (hm k).2 (.inl rfl)
    have hj : j ∈ Region.ready md ops L := (hm j).2 (.inr rfl)
    refine ⟨fun h0 => (by rw [h0] at hk; cases hk), fun i hi => ?_⟩
    rcases (hm i).1 hi with rfl | rfl
    · exact wpOp_al (getD_al hsz hcs hd) hS (fun a' w' hS' hK => wpT_planV hs hQ hcs t m _ _ a' w' (by rw [Array.size_setIfInBounds]; exact hsz) (getD_al hsz hcs hd) (hC.set hk) hS' hB1 hK) h.1
    · exact wpOp_al (getD_al hsz hcs hd) hS (fun a' w' hS' hK => wpT_planV hs hQ hcs u m _ _ a' w' (by rw [Array.size_setIfInBounds]; exact hsz) (getD_al hsz hcs hd) (hC.set hj) hS' hB2 hK) h.2

variable {w : World} {a : Act} {o : Oper} {t u : PTree} {k j : Nat} {d : Bool}
theorem wp_region_planV {id : Nat} {l : List Oper} (S : World → Prop) (c : Nat) (t : PTree) (hm : P.follows .mixedOrders = true)
    (hB : (Region.noSelect l.toArray && planV .any l.toArray c t l.length (Array.replicate l.length false) && decide (c < l.length)) = true)
    (hS : S w.drew) (h : wpPV P l.toArray (NoP Q) S c t false a w.drew) : (Code.region id l.toArray true).wp P Q a w := by
  simp only [Bool.and_eq_true, decide_eq_true_eq] at hB
  obtain ⟨⟨h1, h2⟩, h4⟩ := hB
  refine Code.wp_mono NoP.imp (wp_region_any hm (wpAny_of_T (S := S) (c := c) _ _ _ _ ?_))
  have := wpT_planV (P := P) (md := .any) (Q := NoP Q) (S := S) (c := c) h1 (fun _ _ _ _ _ h => h) (by simpa using h4) t l.length (Array.replicate l.length false) false a w.drew (by simp) (by rw [Array.getD_eq_getD_getElem?, Array.getElem?_replicate]; split <;> rfl) (Closed.start _) (fun _ => hS) h2 h
  simpa using this
theorem pv_nil (h : Q .normal a w) : wpPV P ops (NoP Q) S c .nil d a w := h
theorem pv_pure (ho : ops[k]? = some o) (hg : Region.wanted o (yielded ops a.tmps) = true) (h : ∀ K : Act → Prop, (∀ a', wpPV P ops Q S c t d a' w → K a') → ∃ v, (∀ w', (execOp a.eval o).run P w' = .ok (.value v) w') ∧ K (a.put o.dst v)) : wpPV P ops Q S c (.pure k t) d a w := by
  obtain ⟨v, h1, h2⟩ := h _ (fun _ h => h)
  exact ⟨o, ho, v, .inl ⟨hg, fun w' _ => h1 w'⟩, h2⟩
theorem pv_is (v : Value) (ho : ops[k]? = some o) (hg : Region.wanted o (yielded ops a.tmps) = true) (hrun : ∀ w', (execOp a.eval o).run P w' = .ok (.value v) w')
    (h : ∀ K : Act → Prop, (∀ a', wpPV P ops Q S c t d a' w → K a') → K (a.put o.dst v)) : wpPV P ops Q S c (.pure k t) d a w :=
  ⟨o, ho, v, .inl ⟨hg, fun w' _ => hrun w'⟩, h (fun a' => wpPV P ops Q S c t d a' w) (fun _ h => h)⟩
theorem pv_skip (ho : ops[k]? = some o) (hg : Region.wanted o (yielded ops a.tmps) = false) (h : ∀ K : Act → Prop, (∀ a', wpPV P ops Q S c t d a' w → K a') → K (a.put o.dst undef)) : wpPV P ops Q S c (.pure k t) d a w :=
  ⟨o, ho, undef, .inr ⟨hg, rfl⟩, h (fun a' => wpPV P ops Q S c t d a' w) (fun _ h => h)⟩
theorem pv_take (v : Value) (ho : ops[k]? = some o) (hg : Region.wanted o (yielded ops a.tmps) = true) (hrun : ∀ w', S w' → (execOp a.eval o).run P w' = .ok (.value v) w')
    (h : ∀ K : Act → Prop, (∀ a', wpPV P ops Q S c t d a' w → K a') → K (a.put o.dst v)) : wpPV P ops Q S c (.read k t) d a w :=
  ⟨o, ho, v, .inl ⟨hg, hrun⟩, h (fun a' => wpPV P ops Q S c t d a' w) (fun _ h => h)⟩
theorem pv_quiet (v : Value) (ho : ops[k]? = some o) (hg : Region.wanted o (yielded ops a.tmps) = true)
    (h : ∀ K : Act → Prop, (∀ a', wpPV P ops Q S c t d a' w → K a') → ∃ f args, (∀ w', (execOp a.eval o).run P w' = .ok (.enter f args) w') ∧ (∀ w', S w' → Calls P f args w' fun e w'' => e = .returned v ∧ w' = w'') ∧ K (a.put o.dst v)) : wpPV P ops Q S c (.quiet k t) d a w := by
  obtain ⟨f, args, h1, h2, h3⟩ := h (fun a' => wpPV P ops Q S c t d a' w) (fun _ h => h)
  exact ⟨o, ho, v, .inl ⟨hg, fun w' hS => ⟨f, args, h1 w', h2 w' hS⟩⟩, h3⟩
theorem pv_fork (h : wpPV P ops Q S c (.alone k t) d a w) (h' : wpPV P ops Q S c (.alone j u) d a w) : wpPV P ops Q S c (.fork k j t u) d a w := ⟨h, h'⟩
theorem pv_val {v : Value} {w1 : World} (ho : ops[k]? = some o) (hg : Region.wanted o (yielded ops a.tmps) = true) (hrun : (execOp a.eval o).run P w = .ok (.value v) w1) (hS : (d || k == c) = false → S w1)
    (h : ∀ K : Act → Prop, (∀ a', wpPV P ops Q S c t (d || k == c) a' w1 → K a') → K (a.put o.dst v)) : wpPV P ops Q S c (.alone k t) d a w :=
  ⟨o, ho, .inl ⟨hg, by unfold Oper.wp; rw [hrun]; exact ⟨hS, h (fun a' => wpPV P ops Q S c t (d || k == c) a' w1) (fun _ h => h)⟩⟩⟩
theorem pv_unit {w1 : World} (ho : ops[k]? = some o) (hg : Region.wanted o (yielded ops a.tmps) = true) (hrun : (execOp a.eval o).run P w = .ok .skip w1) (hS : (d || k == c) = false → S w1)
    (h : ∀ K : Act → Prop, (∀ a', wpPV P ops Q S c t (d || k == c) a' w1 → K a') → K (a.put o.dst undef)) : wpPV P ops Q S c (.alone k t) d a w :=
  ⟨o, ho, .inl ⟨hg, by unfold Oper.wp; rw [hrun]; exact ⟨hS, h (fun a' => wpPV P ops Q S c t (d || k == c) a' w1) (fun _ h => h)⟩⟩⟩
theorem pv_skipA (ho : ops[k]? = some o) (hg : Region.wanted o (yielded ops a.tmps) = false) (h : ∀ K : Act → Prop, (∀ a', wpPV P ops Q S c t (d || k == c) a' w → K a') → K (a.put o.dst undef)) : wpPV P ops Q S c (.alone k t) d a w :=
  ⟨o, ho, .inr ⟨hg, h (fun a' => wpPV P ops Q S c t (d || k == c) a' w) (fun _ h => h)⟩⟩
theorem pv_call (ho : ops[k]? = some o) (hg : Region.wanted o (yielded ops a.tmps) = true)
    (h : ∀ K : FuncId → Array Value → (Value → Act) → Prop, (∀ f args (cc : Value → Act), (Calls P f args w fun e w1 => ∃ v, e = .returned v ∧ ((d || k == c) = false → S w1) ∧ wpPV P ops Q S c t (d || k == c) (cc v) w1) → K f args cc) →
      ∃ f args, (execOp a.eval o).run P w = .ok (.enter f args) w ∧ K f args (fun v => a.put o.dst v)) : wpPV P ops Q S c (.alone k t) d a w := by
  obtain ⟨f, args, hrun, hc⟩ := h _ (fun _ _ _ h => h)
  exact ⟨o, ho, .inl ⟨hg, by
    unfold Oper.wp; rw [hrun]
    exact hc.mono fun e w1 hr => by obtain ⟨v, rfl, h1, h2⟩ := hr; exact ⟨h1, h2⟩⟩⟩
theorem pv_mem (ho : ops[k]? = some o) (hg : Region.wanted o (yielded ops a.tmps) = true)
    (h : ∀ K : Act → World → Prop, (∀ a' w1, ((d || k == c) = false → S w1) → wpPV P ops Q S c t (d || k == c) a' w1 → K a' w1) → ∃ v w1, (execOp a.eval o).run P w = .ok (.value v) w1 ∧ K (a.put o.dst v) w1) : wpPV P ops Q S c (.alone k t) d a w := by
  obtain ⟨v, w1, hrun, h1, h2⟩ := h (fun a' w1 => ((d || k == c) = false → S w1) ∧ wpPV P ops Q S c t (d || k == c) a' w1) (fun _ _ h1 h2 => ⟨h1, h2⟩)
  exact ⟨o, ho, .inl ⟨hg, by unfold Oper.wp; rw [hrun]; exact ⟨h1, h2⟩⟩⟩
/-- an operation of which a contract tells what it does, as '∃ v w1, run = .. ∧ R v w1' -/
theorem pv_does {R : Value → World → Prop} (ho : ops[k]? = some o) (hg : Region.wanted o (yielded ops a.tmps) = true) (hrun : ∃ v w1, (execOp a.eval o).run P w = .ok (.value v) w1 ∧ R v w1)
    (h : ∀ v w1, R v w1 → ((d || k == c) = false → S w1) ∧ ∀ K : Act → Prop, (∀ a', wpPV P ops Q S c t (d || k == c) a' w1 → K a') → K (a.put o.dst v)) : wpPV P ops Q S c (.alone k t) d a w := by
  obtain ⟨v, w1, h1, h2⟩ := hrun
  obtain ⟨h3, h4⟩ := h v w1 h2
  exact pv_val ho hg h1 h3 h4
end
end Go.Proofs.YtijmkbhbpbkkoaaGreat

/- Bytes written one by one, and copied, behind what a block holds. No program is named. -/
namespace Go.Proofs.YtijmkbhbpbkkoaaGreat
open Go.RowKit

section
variable {P : Program} {w w' : World} {g cap q : Nat} {e : TypeId} {L M : List Nat} {S : Nat → Prop}
theorem Out.put1 (h : Out w g e cap L) (hq : L.length = q) (hlt : q < cap) (b : Nat) : Out (w.setCell ⟨g, q, none⟩ (.int .u8 (b : Int))) g e cap (L ++ [b]) := by
  refine ⟨by simp; omega, ?_⟩
  have hb := h.blk.set_ q (.int .u8 (b : Int))
  have he : ((bv (L ++ List.replicate (cap - L.length) 0)).toArray.setIfInBounds q (.int .u8 (b : Int))) = (bv ((L ++ [b]) ++ List.replicate (cap - (L ++ [b]).length) 0)).toArray := by
    apply Array.ext'
    rw [Array.toList_setIfInBounds, List.toList_toArray, List.toList_toArray, bv_append, List.set_append_right _ _ (by rw [bv_len]; omega), bv_len, hq, Nat.sub_self, List.append_assoc, bv_append]
    congr 1
    obtain ⟨k, hk⟩ : ∃ k, cap - q = k + 1 := ⟨cap - q - 1, by omega⟩
    rw [hk, show cap - (L ++ [b]).length = k from by simp; omega, List.replicate_succ]
    rfl
  rw [← he]
  exact hb
theorem Out.set (h : Out w g e cap L) {i : Nat} (hi : i < L.length) (b : Nat) : Out (w.setCell ⟨g, i, none⟩ (.int .u8 (b : Int))) g e cap (L.set i b) := by
  refine ⟨by rw [List.length_set]; exact h.le, ?_⟩
  have hb := h.blk.set_ i (.int .u8 (b : Int))
  have he : ((bv (L ++ List.replicate (cap - L.length) 0)).toArray.setIfInBounds i (.int .u8 (b : Int))) = (bv (L.set i b ++ List.replicate (cap - (L.set i b).length) 0)).toArray := by
    apply Array.ext'
    rw [Array.toList_setIfInBounds, List.toList_toArray, List.toList_toArray, bv_append, List.set_append_left _ _ (by rw [bv_len]; exact hi), bv_append, List.length_set]
    congr 1
    unfold bv
    rw [List.map_set]
  rw [← he]
  exact hb
theorem Out.pad (h : Out w g e cap L) {k : Nat} (hk : L.length + k ≤ cap) : Out w g e cap (L ++ List.replicate k 0) := by
  refine ⟨by simp; omega, ?_⟩
  have he : L ++ List.replicate k 0 ++ List.replicate (cap - (L ++ List.replicate k 0).length) 0 = L ++ List.replicate (cap - L.length) 0 := by
    rw [List.append_assoc, List.replicate_append_replicate]
    congr 2
    simp; omega
  rw [he]
  exact h.blk
/-- what lies at a place of it -/
theorem Out.get (h : Out w g e cap L) {i : Nat} (hi : i < cap) : w.cell? ⟨g, i, none⟩ = some ((bv (L ++ List.replicate (cap - L.length) 0)).toArray[i]'(by rw [h.size]; exact hi)) :=
  (h.blk.cell i).trans (Array.getElem?_eq_getElem _)
theorem Out.mod1 (q : Nat) (v : Value) : Mod (At g) w (w.setCell ⟨g, q, none⟩ v) := (Mod.refl (At g) w).setCell (p := ⟨g, q, none⟩) (.inr (show At g g from rfl)) v
variable {o : Oper} {a : Act}
theorem exec_copy_out (t u : TypeId) (d s : Operand) (ho : o.op = .call { callee := .builtin .copy, args := #[d, s], argTypes := #[t, u] })
    (ht : P.underlying t = some (.slice e)) (hi : (P.info? e).map (·.size) = some 1)
    (h : Out w g e cap L) (hq : L.length = q) {dl dc : Nat} (hd : a.eval d = .slice (some ⟨g, q, none⟩) dl dc) {A : Option Addr} {m c : Nat} (hx : a.eval s = .slice A m c) (hr : Rd w A m (bv M)) (hm : 0 < m) (hdl : m ≤ dl) (hroom : q + m ≤ cap) :
    ∃ w', (execOp a.eval o).run P w = .ok (.value (.int .i64 (m : Int))) w' ∧ Out w' g e cap (L ++ M) ∧ Mod (At g) w w' ∧ w'.heap.size = w.heap.size := by
  subst hq
  have hM : M.length = m := by rw [← bv_len]; exact hr.1
  obtain ⟨g', off, rfl, hc⟩ := hr.2 hm
  have hrun := run_copy_row (P := P) w t u o.type e g L.length dl dc ⟨g', off, none⟩ m c _ e (bv M) ht hi h.blk (by rw [bv_len, hM]; exact (Nat.min_eq_left hdl).symm) (fun j v hv => by
    have hadd : (⟨g', off, none⟩ : Addr).add j = ⟨g', off + j, none⟩ := by unfold Addr.add; split <;> simp_all
    rw [hadd]; exact hc j v hv) (by rw [h.size, bv_len]; omega) (bv_one M)
  rw [bv_len, List.toList_toArray, out_list (by omega), hM] at hrun
  refine ⟨_, ?_, ⟨by rw [List.length_append]; omega, h.blk.setRow_ _⟩, Mod.rowAt _ _ _, by simp⟩
  simp [execOp, ho, resolve, invoke, builtin, hd, hx, hrun, Result.andThen]
  rfl
end
end Go.Proofs.YtijmkbhbpbkkoaaGreat

/- copy behind what a block holds, at the walk; the first bytes of a known block read. No program is named. -/
namespace Go.Proofs.YtijmkbhbpbkkoaaGreat
open Go.RowKit

section
variable {P : Program} {w w' : World} {g cap q : Nat} {e : TypeId} {L M : List Nat} {S : Nat → Prop} {o : Oper} {a : Act}
variable {ops : Array Oper} {rest : List Oper} {Q : Exit → Act → World → Prop}
theorem wpList_copy_out (t u : TypeId) (d s : Operand) (hg : Region.wanted o (yielded ops a.tmps) = true) (ho : o.op = .call { callee := .builtin .copy, args := #[d, s], argTypes := #[t, u] })
    (ht : P.underlying t = some (.slice e)) (hi : (P.info? e).map (·.size) = some 1)
    (h : Out w g e cap L) (hq : L.length = q) {dl dc : Nat} (hd : a.eval d = .slice (some ⟨g, q, none⟩) dl dc) {A : Option Addr} {m c : Nat} (hx : a.eval s = .slice A m c) (hr : Rd w A m (bv M)) (hm : 0 < m) (hdl : m ≤ dl) (hroom : q + m ≤ cap)
    (hK : ∀ w', Out w' g e cap (L ++ M) → Mod (At g) w w' → w'.heap.size = w.heap.size → wpList P ops Q rest (a.put o.dst (.int .i64 (m : Int))) w') : wpList P ops Q (o :: rest) a w := by
  obtain ⟨w', h1, h2, h3, h4⟩ := exec_copy_out (P := P) t u d s ho ht hi h hq hd hx hr hm hdl hroom
  exact wpList_val hg h1 (hK w' h2 h3 h4)
theorem pv_copy_out {T : World → Prop} {c k : Nat} {u : PTree} {dd : Bool} (ty tz : TypeId) (d s : Operand) (hk : ops[k]? = some o) (hg : Region.wanted o (yielded ops a.tmps) = true) (ho : o.op = .call { callee := .builtin .copy, args := #[d, s], argTypes := #[ty, tz] })
    (ht : P.underlying ty = some (.slice e)) (hi : (P.info? e).map (·.size) = some 1)
    (h : Out w g e cap L) (hq : L.length = q) {dl dc : Nat} (hd : a.eval d = .slice (some ⟨g, q, none⟩) dl dc) {A : Option Addr} {m cc : Nat} (hx : a.eval s = .slice A m cc) (hr : Rd w A m (bv M)) (hm : 0 < m) (hdl : m ≤ dl) (hroom : q + m ≤ cap)
    (hK : ∀ w1, Out w1 g e cap (L ++ M) → Mod (At g) w w1 → w1.heap.size = w.heap.size → ((dd || k == c) = false → T w1) ∧ ∀ K : Act → Prop, (∀ a', wpPV P ops Q T c u (dd || k == c) a' w1 → K a') → K (a.put o.dst (.int .i64 (m : Int)))) : wpPV P ops Q T c (.alone k u) dd a w := by
  obtain ⟨w', h1, h2, h3, h4⟩ := exec_copy_out (P := P) ty tz d s ho ht hi h hq hd hx hr hm hdl hroom
  obtain ⟨h5, h6⟩ := hK w' h2 h3 h4
  exact pv_val hk hg h1 h5 h6
/-- a part of a block of bytes -/
theorem Rd.of_bytes {t : TypeId} {l : List Nat} (h : Blk w g t (bv l).toArray) (off n : Nat) (hn : off + n ≤ l.length) : Rd w (some ⟨g, off, none⟩) n (bv ((l.drop off).take n)) :=
  Rd.of_blk h off (by rw [bv_len, List.length_take, List.length_drop]; omega) (fun j v hj => by
    have h40 : j < n := by have := (List.getElem?_eq_some_iff.1 hj).1; rw [bv_len, List.length_take] at this; omega
    rw [bv_at, List.getElem?_take, if_pos h40, List.getElem?_drop] at hj
    rw [List.getElem?_toArray, bv_at]
    exact hj)
end
end Go.Proofs.YtijmkbhbpbkkoaaGreat

/- Structs of two rows built, slice literals of one element, append in a plan that forks. No program is named. -/
namespace Go.Proofs.YtijmkbhbpbkkoaaGreat
open Go.RowKit

theorem fill_one {s : Nat} (hs : 0 < s) (v : Value) (cells : Array Value) (h : v.cells.size = s) (hc : cells.size = s) : Instr.fill (fun i => some (i * s, s)) cells [(0, v)] = some v.cells := by
  have := Great.fill_whole hs [v] cells (by intro u hu; rw [List.mem_singleton] at hu; subst hu; exact h) (by simp [hc])
  simpa using this
theorem fill_two {s : Nat} (hs : 0 < s) (X Y cells : Array Value) (hX : X.size = s) (hY : Y.size = s) (hc : cells.size = 2 * s) (pl : Nat → Option (Nat × Nat)) (h0 : pl 0 = some (0, s)) (h1 : pl 1 = some (s, s)) :
    Instr.fill pl cells [(0, .agg X), (1, .agg Y)] = some (X ++ Y) := by
  have := Great.fill_whole hs [.agg X, .agg Y] cells (by intro u hu; simp only [List.mem_cons, List.not_mem_nil, or_false] at hu; rcases hu with h | h <;> subst h <;> first | exact hX | exact hY) (by simp [hc])
  have e : Instr.fill pl cells [(0, .agg X), (1, .agg Y)] = Instr.fill (fun i => some (i * s, s)) cells [(0, .agg X), (1, .agg Y)] := by
    simp [Instr.fill, h0, h1]
  rw [e]
  have e2 : (([Value.agg X, Value.agg Y].zipIdx 0).map fun x => (x.2, x.1)) = [(0, .agg X), (1, .agg Y)] := rfl
  rw [e2] at this
  rw [this]
  congr 1
  show (X.toList ++ (Y.toList ++ [])).toArray = X ++ Y
  simp
section
variable {P : Program} {w w' : World} {o : Oper} {a : Act}
theorem exec_build_two (t : TypeId) (x y : Operand) (ho : o.op = .build t #[(0, x), (1, y)]) {z : Value} {s : Nat} (hz : (P.info? t).map (·.zero) = some (some z)) (hzs : z.cells.size = 2 * s) (hs : 0 < s)
    {fields : Array Field} (hu : P.underlying t = some (.struct fields)) (hpl : fields.toList.mapM (fun f => (P.info? f.type).map fun i => (f.offset, i.size)) = some [(0, s), (s, s)])
    {X Y : Array Value} (hx : a.eval x = .agg X) (hy : a.eval y = .agg Y) (hX : X.size = s) (hY : Y.size = s) : (execOp a.eval o).run P w = .ok (.value (.agg (X ++ Y))) w := by
  obtain ⟨it, hit, hzz⟩ := Option.map_eq_some_iff.1 hz
  have hb : P.built t (#[(0, .agg X), (1, .agg Y)] : Array (Nat × Value)).toList = some (X ++ Y) := by
    unfold Program.built
    rw [hit, hu]
    simp only [hzz, hpl]
    exact fill_two hs X Y _ hX hY hzs _ rfl rfl
  have hr := run_build (P := P) w t _ _ hb
  simp only [execOp, ho, List.map_toArray, List.map_cons, List.map_nil, hx, hy]
  simp [hr, Result.andThen]
theorem exec_bslice1 (t e : TypeId) (x : Operand) (ho : o.op = .buildSlice t 1 #[(0, x)]) {z : Value} {s : Nat} (hu : P.underlying t = some (.slice e)) (hi : (P.info? e).map (fun i => (i.zero, i.size)) = some (some z, s)) (hs : 0 < s) (hsm : s ≤ 16777216)
    {v : Value} {X : Array Value} (hx : a.eval x = v) (hv : v.cells = X) (hX : X.size = s) :
    (execOp a.eval o).run P w = .ok (.value (.slice (some ⟨w.heap.size, 0, none⟩) 1 1)) (w.alloc (.cells X e)) := by
  obtain ⟨ie, hie, h2⟩ := Option.map_eq_some_iff.1 hi
  simp only [Prod.mk.injEq] at h2
  obtain ⟨hz, hsz⟩ := h2
  subst hv
  have hf : Instr.fill (fun i => some (i * ie.size, ie.size)) ((Array.range (1 * ie.size)).map (z.cells[· % z.cells.size]!)) (#[(0, v)] : Array (Nat × Value)).toList = some v.cells := by
    rw [hsz]
    exact fill_one hs v _ hX (by simp)
  have hr := run_buildSlice (P := P) w t e 1 #[(0, v)] _ ie z hu hie hz (by rw [hsz]; omega) (by rw [hsz]; omega) hf
  simp only [execOp, ho, List.map_toArray, List.map_cons, List.map_nil, hx]
  simp [hr, Result.andThen]
theorem exec_assign (x : Operand) (ho : o.op = .assign x) {v : Value} (hx : a.eval x = v) : (execOp a.eval o).run P w = .ok (.value v) w := by
  subst hx
  simp [execOp, ho, Result.andThen]
variable {ops : Array Oper} {Q : Exit → Act → World → Prop} {S : World → Prop} {c k : Nat} {u : PTree} {d : Bool}
theorem pv_bslice1 (t e : TypeId) (x : Operand) (hk : ops[k]? = some o) (hg : Region.wanted o (yielded ops a.tmps) = true) (ho : o.op = .buildSlice t 1 #[(0, x)]) {z : Value} {s : Nat} (hu : P.underlying t = some (.slice e)) (hi : (P.info? e).map (fun i => (i.zero, i.size)) = some (some z, s)) (hs : 0 < s) (hsm : s ≤ 16777216)
    {v : Value} {xs : List Value} (hx : a.eval x = v) (hv : v.cells = xs.toArray) (hX : xs.length = s)
    (hK : ∀ w1, RdC w1 (some ⟨w.heap.size, 0, none⟩) 1 s xs → Mod Nn w w1 → w1.heap.size = w.heap.size + 1 → ((d || k == c) = false → S w1) ∧ ∀ K : Act → Prop, (∀ a', wpPV P ops Q S c u (d || k == c) a' w1 → K a') → K (a.put o.dst (.slice (some ⟨w.heap.size, 0, none⟩) 1 1))) : wpPV P ops Q S c (.alone k u) d a w := by
  have hrun := exec_bslice1 (P := P) (w := w) (o := o) (a := a) t e x ho hu hi hs hsm hx hv (by simpa using hX)
  obtain ⟨h5, h6⟩ := hK _ (RdC.of_blk (Blk.new w e xs.toArray) (by rw [hX]; omega)) ((Mod.refl Nn w).alloc _) (by simp)
  exact pv_val hk hg hrun h5 h6
theorem pv_append (t : TypeId) (s x : Operand) (hk : ops[k]? = some o) (hg : Region.wanted o (yielded ops a.tmps) = true) (ho : o.op = .call { callee := .builtin .append, args := #[s, x], argTypes := #[t, t] })
    (base : Nat) (e : TypeId) (z : Value) (size bytes : Nat) (ht : P.underlying t = some (.slice e))
    (hi : (P.info? e).map (fun i => (i.zero, i.size, i.bytes)) = some (some z, size, bytes)) (hzs : z.cells.size = size) (hsz : 0 < size)
    (v : Value) (n : Nat) (xs : List Value) (hs : a.eval s = v) (hown : w.ownsRow base e size v n xs)
    (A : Option Addr) (m cc : Nat) (news : List Value) (hx : a.eval x = .slice A m cc) (hr : RdC w A m size news) (h1 : ∀ u ∈ news, u.oneCell' = true)
    (hbytes : (n + m) * bytes ≤ 140737488355328) (h63 : n + m ≤ 140737488355328) (hbase : base ≤ w.heap.size)
    (hK : ∀ v' w', w'.ownsRow base e size v' (n + m) (xs ++ news) → w.grownBy w' v.ownBlock → (v'.ownBlock = v.ownBlock ∨ v'.ownBlock = some w.heap.size) →
      ((d || k == c) = false → S w') ∧ ∀ K : Act → Prop, (∀ a', wpPV P ops Q S c u (d || k == c) a' w' → K a') → K (a.put o.dst v')) : wpPV P ops Q S c (.alone k u) d a w := by
  obtain ⟨v', w', hrun, h2, h3, h4⟩ := exec_append (P := P) t s x ho base e z size bytes ht hi hzs hsz hs hown hx hr h1 hbytes h63 hbase
  obtain ⟨h5, h6⟩ := hK v' w' h2 h3 h4
  exact pv_val hk hg hrun h5 h6
end
end Go.Proofs.YtijmkbhbpbkkoaaGreat
