/- append in place: a row of bytes with noughts behind. No program is named. -/
import Derived.Test.YtjndcgpfikngaaaKit12
import Derived.Test.YtjndcgpfikngaaaCrc4
import Derived.Lib.AppendStr
namespace Go.Proofs.Ytjndcgpfikngaaa
open Go.RowKit Go.Lib

/-- block g has cap bytes, of which the first are L; noughts behind -/
structure Out (w : World) (g : Nat) (e : TypeId) (cap : Nat) (L : List Nat) : Prop where
  le : L.length ≤ cap
  blk : Blk w g e (bv (L ++ List.replicate (cap - L.length) 0)).toArray
section
variable {w w' : World} {g cap : Nat} {e : TypeId} {L M : List Nat} {S : Nat → Prop}
theorem bv_len (l : List Nat) : (bv l).length = l.length := by simp [bv]
theorem bv_append (l m : List Nat) : bv (l ++ m) = bv l ++ bv m := by simp [bv]
theorem out_list (h : L.length + M.length ≤ cap) :
    (bv (L ++ List.replicate (cap - L.length) 0)).take L.length ++ bv M ++ (bv (L ++ List.replicate (cap - L.length) 0)).drop (L.length + M.length) = bv ((L ++ M) ++ List.replicate (cap - (L ++ M).length) 0) := by
  rw [bv_append, List.take_left' (bv_len L), List.drop_append, List.drop_of_length_le (by rw [bv_len]; omega), List.nil_append, bv_len, bv_append, bv_append]
  congr 1
  unfold bv
  rw [← List.map_drop, List.drop_replicate, List.length_append]
  congr 2
  omega
theorem Out.mod (h : Out w g e cap L) (hm : Mod S w w') (hn : ¬ S g) : Out w' g e cap L := ⟨h.le, h.blk.mod hm hn⟩
theorem Out.lt (h : Out w g e cap L) : g < w.heap.size := h.blk.lt
theorem Out.size (h : Out w g e cap L) : (bv (L ++ List.replicate (cap - L.length) 0)).toArray.size = cap := by
  have := h.le
  simp [bv]; omega
theorem Out.rd (h : Out w g e cap L) {n : Nat} (hn : L.length = n) : Rd w (some ⟨g, 0, none⟩) n (bv L) := by
  subst hn
  refine Rd.of_blk h.blk 0 (bv_len L) (fun j v hv => ?_)
  rw [List.getElem?_toArray, Nat.zero_add, bv_append, List.getElem?_append_left (List.getElem?_eq_some_iff.1 hv).1]; exact hv
theorem Out.full (h : Out w g e cap L) : Rd w (some ⟨g, 0, none⟩) cap (bv (L ++ List.replicate (cap - L.length) 0)) :=
  Rd.of_blk0 h.blk (by have := h.le; rw [bv_len, List.length_append, List.length_replicate]; omega)
theorem Out.new {n : Nat} (h : Blk w g e (Array.replicate n (Value.int .u8 0))) : Out w g e n [] := ⟨Nat.zero_le _, by
  have : (bv ([] ++ List.replicate (n - ([] : List Nat).length) 0)).toArray = Array.replicate n (Value.int .u8 0) := by simp [bv]
  rw [this]; exact h⟩
theorem bv_one (l : List Nat) : ∀ u ∈ bv l, u.oneCell' = true := by intro u hu; obtain ⟨_, _, rfl⟩ := List.mem_map.1 hu; rfl
theorem own_nil (w : World) (base : Nat) (e : TypeId) (s : Nat) : w.ownsRow base e s (.slice none 0 0) 0 [] := ⟨by simp, .inl ⟨rfl, rfl⟩⟩
theorem own_ge {base n s : Nat} {v : Value} {xs : List Value} (h : w.ownsRow base e s v n xs) : ∀ g, v.ownBlock = some g → base ≤ g := fun g hg => by
  obtain ⟨A, c, rfl, _, hA⟩ := own_form h
  exact (hA g (own_of hg)).1
variable {P : Program}
theorem setRow_size (w : World) (g : Nat) (cs : Array Value) : (w.setRow g cs).heap.size = w.heap.size := by simp
variable {o : Oper} {a : Act}
theorem exec_append_out (t : TypeId) (s x : Operand) (ho : o.op = .call { callee := .builtin .append, args := #[s, x], argTypes := #[t, t] })
    (ht : P.underlying t = some (.slice e)) (hi : (P.info? e).map (fun i => (i.zero, i.size, i.bytes)) = some (some (.int .u8 0), 1, 1))
    (h : Out w g e cap L) {n : Nat} (hn : L.length = n) (hs : a.eval s = .slice (some ⟨g, 0, none⟩) n cap) {A : Option Addr} {m c : Nat} (hx : a.eval x = .slice A m c) (hr : Rd w A m (bv M)) (hroom : n + m ≤ cap) :
    ∃ w', (execOp a.eval o).run P w = .ok (.value (.slice (some ⟨g, 0, none⟩) (n + m) cap)) w' ∧ Out w' g e cap (L ++ M) ∧ Mod (At g) w w' ∧ w'.heap.size = w.heap.size := by
  obtain ⟨i, hii, hz, hsz, hby⟩ := info_parts hi
  have hm : M.length = m := by rw [← bv_len]; exact hr.1
  have key : ∃ w', (Builtin.append_ #[t, t] o.type #[.slice (some ⟨g, 0, none⟩) n cap, .slice A m c]).run P w = .ok (.slice (some ⟨g, 0, none⟩) (n + m) cap) w' ∧ Out w' g e cap (L ++ M) ∧ Mod (At g) w w' ∧ w'.heap.size = w.heap.size := by
    by_cases hA : ∃ ad, A = some ad
    · obtain ⟨ad, rfl⟩ := hA
      have hcells : ∀ j u, (bv M)[j]? = some u → w.cell? (ad.add j) = some u := by
        intro j u hu
        rcases Nat.eq_zero_or_pos m with h0 | h0
        · have := List.eq_nil_of_length_eq_zero (hr.1.trans h0)
          rw [this] at hu; simp at hu
        · obtain ⟨g', off, h, hc⟩ := hr.2 h0
          injection h with h; subst h
          have hadd : (⟨g', off, none⟩ : Addr).add j = ⟨g', off + j, none⟩ := by unfold Addr.add; split <;> simp_all
          rw [hadd]; exact hc j u hu
      have hr' := run_append_room (P := P) w t o.type e i ht hii g n cap _ h.blk ad m c (bv M) (by rw [hr.1, hsz, Nat.mul_one]) hcells (by intro u hu; obtain ⟨_, _, rfl⟩ := List.mem_map.1 hu; rfl) hroom (by rw [h.size, hsz, Nat.mul_one, hr.1]; exact hroom)
      refine ⟨_, hr', ⟨by rw [List.length_append]; omega, ?_⟩, Mod.rowAt _ _ _, by simp⟩
      rw [hsz, Nat.mul_one, bv_len, ← hn, List.toList_toArray, out_list (by omega)]
      exact h.blk.setRow_ _
    · have hA' : A = none := by cases A with | none => rfl | some a => exact absurd ⟨a, rfl⟩ hA
      subst hA'
      have hm0 : m = 0 := by
        rcases Nat.eq_zero_or_pos m with h0 | h0
        · exact h0
        · obtain ⟨_, _, h, _⟩ := hr.2 h0; cases h
      have hM : M = [] := List.eq_nil_of_length_eq_zero (hm.trans hm0)
      subst hM; subst hm0
      refine ⟨w, ?_, by rw [List.append_nil]; exact h, Mod.refl _ _, rfl⟩
      have hroom' : n ≤ cap := by omega
      simp [Builtin.append_, run_underlying ht, sizeOf, typeInfo, hii, Builtin.lenOf, Builtin.firstCells, hroom', storeCells]
  obtain ⟨w', h1, h2, h3, h4⟩ := key
  exact ⟨w', by simp [execOp, ho, resolve, invoke, builtin, hs, hx, h1, Result.andThen], h2, h3, h4⟩
theorem exec_append_outs (t u : TypeId) (s x : Operand) (ho : o.op = .call { callee := .builtin .append, args := #[s, x], argTypes := #[t, u] })
    (ht : P.underlying t = some (.slice e)) (hu : P.underlying u = some .string) (hi : (P.info? e).map (fun i => (i.zero, i.size, i.bytes)) = some (some (.int .u8 0), 1, 1))
    (h : Out w g e cap L) {n : Nat} (hn : L.length = n) (hs : a.eval s = .slice (some ⟨g, 0, none⟩) n cap) {b : ByteArray} (hx : a.eval x = .string b) (hr : strCells b = bv M) {m : Nat} (hm : b.size = m) (hroom : n + m ≤ cap) :
    ∃ w', (execOp a.eval o).run P w = .ok (.value (.slice (some ⟨g, 0, none⟩) (n + m) cap)) w' ∧ Out w' g e cap (L ++ M) ∧ Mod (At g) w w' ∧ w'.heap.size = w.heap.size := by
  obtain ⟨i, hii, hz, hsz, hby⟩ := info_parts hi
  subst hm
  have hml : M.length = b.size := by rw [← bv_len, ← hr, strCells_length]
  have hr' := run_append_room_string (P := P) w t u o.type e i ht hu hii hsz g n cap _ h.blk b hroom (by rw [h.size]; exact hroom)
  obtain ⟨w', h1, h2, h3, h4⟩ : ∃ w', (Builtin.append_ #[t, u] o.type #[.slice (some ⟨g, 0, none⟩) n cap, .string b]).run P w = .ok (.slice (some ⟨g, 0, none⟩) (n + b.size) cap) w' ∧ Out w' g e cap (L ++ M) ∧ Mod (At g) w w' ∧ w'.heap.size = w.heap.size := by
    refine ⟨_, hr', ⟨by rw [List.length_append]; omega, ?_⟩, Mod.rowAt _ _ _, by simp⟩
    rw [hr, ← hn, List.toList_toArray, ← hml, out_list (by omega)]
    exact h.blk.setRow_ _
  exact ⟨w', by simp [execOp, ho, resolve, invoke, builtin, hs, hx, h1, Result.andThen], h2, h3, h4⟩
variable {ops : Array Oper} {rest : List Oper} {Q : Exit → Act → World → Prop}
theorem wpList_append_out (t : TypeId) (s x : Operand) (hg : Region.wanted o (yielded ops a.tmps) = true) (ho : o.op = .call { callee := .builtin .append, args := #[s, x], argTypes := #[t, t] })
    (ht : P.underlying t = some (.slice e)) (hi : (P.info? e).map (fun i => (i.zero, i.size, i.bytes)) = some (some (.int .u8 0), 1, 1))
    (h : Out w g e cap L) {n : Nat} (hn : L.length = n) (hs : a.eval s = .slice (some ⟨g, 0, none⟩) n cap) {A : Option Addr} {m c : Nat} (hx : a.eval x = .slice A m c) (hr : Rd w A m (bv M)) (hroom : n + m ≤ cap)
    (hK : ∀ w', Out w' g e cap (L ++ M) → Mod (At g) w w' → w'.heap.size = w.heap.size → wpList P ops Q rest (a.put o.dst (.slice (some ⟨g, 0, none⟩) (n + m) cap)) w') : wpList P ops Q (o :: rest) a w := by
  obtain ⟨w', h1, h2, h3, h4⟩ := exec_append_out (P := P) t s x ho ht hi h hn hs hx hr hroom
  exact wpList_val hg h1 (hK w' h2 h3 h4)
theorem wpList_append_outs (t u : TypeId) (s x : Operand) (hg : Region.wanted o (yielded ops a.tmps) = true) (ho : o.op = .call { callee := .builtin .append, args := #[s, x], argTypes := #[t, u] })
    (ht : P.underlying t = some (.slice e)) (hu : P.underlying u = some .string) (hi : (P.info? e).map (fun i => (i.zero, i.size, i.bytes)) = some (some (.int .u8 0), 1, 1))
    (h : Out w g e cap L) {n : Nat} (hn : L.length = n) (hs : a.eval s = .slice (some ⟨g, 0, none⟩) n cap) {b : ByteArray} (hx : a.eval x = .string b) (hr : strCells b = bv M) {m : Nat} (hm : b.size = m) (hroom : n + m ≤ cap)
    (hK : ∀ w', Out w' g e cap (L ++ M) → Mod (At g) w w' → w'.heap.size = w.heap.size → wpList P ops Q rest (a.put o.dst (.slice (some ⟨g, 0, none⟩) (n + m) cap)) w') : wpList P ops Q (o :: rest) a w := by
  obtain ⟨w', h1, h2, h3, h4⟩ := exec_append_outs (P := P) t u s x ho ht hu hi h hn hs hx hr hm hroom
  exact wpList_val hg h1 (hK w' h2 h3 h4)
end
/-! ## append to a slice without room: new memory, whatever the slice's row is -/
section
variable {P : Program} {w : World} {o : Oper} {a : Act}
theorem exec_append_grow (t : TypeId) (s x : Operand) (ho : o.op = .call { callee := .builtin .append, args := #[s, x], argTypes := #[t, t] })
    (e : TypeId) (z : Value) (size bytes : Nat) (ht : P.underlying t = some (.slice e)) (hi : (P.info? e).map (fun i => (i.zero, i.size, i.bytes)) = some (some z, size, bytes)) (hzs : z.cells.size = size) (hsz : 0 < size)
    {A : Option Addr} {n cap : Nat} {xs : List Value} (hs : a.eval s = .slice A n cap) (hx0 : RdC w A n size xs) {B : Option Addr} {m c : Nat} {news : List Value} (hx : a.eval x = .slice B m c) (hr : RdC w B m size news) (hm0 : 0 < m) (hn0 : 0 < n)
    (hroom : cap < n + m) (hbytes : (n + m) * bytes ≤ 140737488355328) (h63 : n + m ≤ 140737488355328) :
    ∃ v' w', (execOp a.eval o).run P w = .ok (.value v') w' ∧ w'.ownsRow w.heap.size e size v' (n + m) (xs ++ news) ∧ Mod Nn w w' := by
  obtain ⟨i, hii, hz, hss, hby⟩ := info_parts hi
  clear hi
  have h63' : n + m ≤ maxLen := by simp only [maxLen]; omega
  subst hss; subst hby
  obtain ⟨ga, off, rfl, hc⟩ := hr.2 hm0
  have hnews : ∀ j u, news[j]? = some u → w.cell? ((⟨ga, off, none⟩ : Addr).add j) = some u := by
    intro j u hu
    have hadd : (⟨ga, off, none⟩ : Addr).add j = ⟨ga, off + j, none⟩ := by unfold Addr.add; split <;> simp_all
    rw [hadd]; exact hc j u hu
  obtain ⟨gb, offb, rfl, hcb⟩ := hx0.2 hn0
  have holds : ∀ j u, xs[j]? = some u → w.cell? ((⟨gb, offb, none⟩ : Addr).add j) = some u := by
    intro j u hu
    have hadd : (⟨gb, offb, none⟩ : Addr).add j = ⟨gb, offb + j, none⟩ := by unfold Addr.add; split <;> simp_all
    rw [hadd]; exact hcb j u hu
  have hl := hr.1
  have hlen : (xs ++ news).length = (n + m) * i.size := by rw [List.length_append, hx0.1, hl, Nat.add_mul]
  have hr' := run_append_grow (P := P) w t o.type e i z ht hii hz ⟨gb, offb, none⟩ n cap xs hx0.1 holds ⟨ga, off, none⟩ m c news hl hnews (by omega) (by omega) (growslice_fits (by omega) hbytes)
  obtain ⟨v', w', h1, h2, h3⟩ : ∃ v' w', (Builtin.append_ #[t, t] o.type #[.slice (some ⟨gb, offb, none⟩) n cap, .slice (some ⟨ga, off, none⟩) m c]).run P w = .ok v' w' ∧ w'.ownsRow w.heap.size e i.size v' (n + m) (xs ++ news) ∧ Mod Nn w w' := by
    refine ⟨_, _, hr', ⟨hlen, .inr ⟨w.heap.size, _, _, rfl, Nat.le_refl _, heap_alloc_new w.drew _, grownCap_ge w (n + m) cap e, grownCap_le_maxLen w (n + m) cap e h63', ?_, ?_⟩⟩, ((Mod.refl Nn w).drew).alloc _⟩
    · have hge := grownCap_ge w (n + m) cap e
      simp only [Array.size_append, List.size_toArray, size_zeroCells, hzs, hx0.1, hl, ← Nat.add_mul]
      congr 1
      omega
    · simp only [Array.toList_append, List.append_assoc]
      rw [← List.append_assoc, ← hlen]
      exact List.take_left
  exact ⟨v', w', by simp [execOp, ho, resolve, invoke, builtin, hs, hx, h1, Result.andThen], h2, h3⟩
variable {ops : Array Oper} {rest : List Oper} {Q : Exit → Act → World → Prop}
theorem wpList_append_grow (t : TypeId) (s x : Operand) (hg : Region.wanted o (yielded ops a.tmps) = true) (ho : o.op = .call { callee := .builtin .append, args := #[s, x], argTypes := #[t, t] })
    (e : TypeId) (z : Value) (size bytes : Nat) (ht : P.underlying t = some (.slice e)) (hi : (P.info? e).map (fun i => (i.zero, i.size, i.bytes)) = some (some z, size, bytes)) (hzs : z.cells.size = size) (hsz : 0 < size)
    {A : Option Addr} {n cap : Nat} {xs : List Value} (hs : a.eval s = .slice A n cap) (hx0 : RdC w A n size xs) {B : Option Addr} {m c : Nat} {news : List Value} (hx : a.eval x = .slice B m c) (hr : RdC w B m size news) (hm0 : 0 < m) (hn0 : 0 < n)
    (hroom : cap < n + m) (hbytes : (n + m) * bytes ≤ 140737488355328) (h63 : n + m ≤ 140737488355328)
    (hK : ∀ v' w', w'.ownsRow w.heap.size e size v' (n + m) (xs ++ news) → Mod Nn w w' → wpList P ops Q rest (a.put o.dst v') w') : wpList P ops Q (o :: rest) a w := by
  obtain ⟨v', w', h1, h2, h3⟩ := exec_append_grow (P := P) t s x ho e z size bytes ht hi hzs hsz hs hx0 hx hr hm0 hn0 hroom hbytes h63
  exact wpList_val hg h1 (hK v' w' h2 h3)
end
end Go.Proofs.Ytjndcgpfikngaaa
