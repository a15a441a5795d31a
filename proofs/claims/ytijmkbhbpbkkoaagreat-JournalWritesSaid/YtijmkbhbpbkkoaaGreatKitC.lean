/- Own lemmas of several kinds, put together: Kit11, Kit13, Kit14, Kit15, Kit16. -/
import Derived.Test.YtijmkbhbpbkkoaaGreatKitB
import Derived.Laws.BitsLemmas
/- Words of 32 bits as BitVec: the operations' laws. No program is named. -/
namespace Go.Proofs.YtijmkbhbpbkkoaaGreat
open Go.RowKit

/-- a word as a value -/
def wv (x : BitVec 32) : Value := .int .u32 (x.toNat : Int)
theorem w_xor (x y : BitVec 32) : bits .xor .u32 (x.toNat : Int) (y.toNat : Int) = ((x ^^^ y).toNat : Int) := by
  show IntKind.u32.wrap ((BitVec.ofInt 32 (x.toNat : Int) ^^^ BitVec.ofInt 32 (y.toNat : Int)).toNat : Int) = _
  rw [BitVec.ofInt_natCast, BitVec.ofInt_natCast, BitVec.ofNat_toNat, BitVec.ofNat_toNat, BitVec.setWidth_eq, BitVec.setWidth_eq, IntKind.wrap_u32]
  have := (x ^^^ y).isLt
  omega
theorem w_and (x y : BitVec 32) : bits .and .u32 (x.toNat : Int) (y.toNat : Int) = ((x &&& y).toNat : Int) := by
  show IntKind.u32.wrap ((BitVec.ofInt 32 (x.toNat : Int) &&& BitVec.ofInt 32 (y.toNat : Int)).toNat : Int) = _
  rw [BitVec.ofInt_natCast, BitVec.ofInt_natCast, BitVec.ofNat_toNat, BitVec.ofNat_toNat, BitVec.setWidth_eq, BitVec.setWidth_eq, IntKind.wrap_u32]
  have := (x &&& y).isLt
  omega
theorem w_or (x y : BitVec 32) : bits .or .u32 (x.toNat : Int) (y.toNat : Int) = ((x ||| y).toNat : Int) := by
  show IntKind.u32.wrap ((BitVec.ofInt 32 (x.toNat : Int) ||| BitVec.ofInt 32 (y.toNat : Int)).toNat : Int) = _
  rw [BitVec.ofInt_natCast, BitVec.ofInt_natCast, BitVec.ofNat_toNat, BitVec.ofNat_toNat, BitVec.setWidth_eq, BitVec.setWidth_eq, IntKind.wrap_u32]
  have := (x ||| y).isLt
  omega
theorem w_add (x y : BitVec 32) : IntKind.u32.wrap ((x.toNat : Int) + (y.toNat : Int)) = ((x + y).toNat : Int) := by
  rw [IntKind.wrap_u32, BitVec.toNat_add]; omega
theorem w_shl (x : BitVec 32) (n : Nat) (hn : n ≤ 32) : IntKind.u32.wrap ((x.toNat : Int) * 2 ^ n) = ((x <<< n).toNat : Int) := by
  rw [IntKind.wrap_u32, BitVec.toNat_shiftLeft, Nat.shiftLeft_eq]
  simp
theorem w_shr (x : BitVec 32) (n : Nat) (hn : n ≤ 32) : (x.toNat : Int) / 2 ^ n = ((x >>> n).toNat : Int) := by
  rw [BitVec.toNat_ushiftRight, Nat.shiftRight_eq_div_pow]
  simp
theorem w_not (x : BitVec 32) : bits .xor .u32 (if IntKind.u32.signed = true then -1 else IntKind.u32.max) (x.toNat : Int) = ((~~~ x).toNat : Int) := by
  have h : (if IntKind.u32.signed = true then -1 else IntKind.u32.max : Int) = ((BitVec.allOnes 32).toNat : Int) := by decide
  rw [h, w_xor, BitVec.allOnes_xor]
section
variable {P : Program} {w : World} {o : Oper} {a : Act}
theorem exec_xor (t t' : TypeId) (x y : Operand) (ho : o.op = .binOp .xor t x y t') {u v : BitVec 32} (hx : a.eval x = wv u) (hy : a.eval y = wv v) : (execOp a.eval o).run P w = .ok (.value (wv (u ^^^ v))) w := by
  have h : (execOp a.eval o).run P w = .ok (.value (.int .u32 (bits .xor .u32 (u.toNat : Int) (v.toNat : Int)))) w := by
    simp only [execOp, ho, hx, hy, wv]; simp [go_sem]
  rw [h, w_xor]; rfl
theorem exec_and (t t' : TypeId) (x y : Operand) (ho : o.op = .binOp .and t x y t') {u v : BitVec 32} (hx : a.eval x = wv u) (hy : a.eval y = wv v) : (execOp a.eval o).run P w = .ok (.value (wv (u &&& v))) w := by
  have h : (execOp a.eval o).run P w = .ok (.value (.int .u32 (bits .and .u32 (u.toNat : Int) (v.toNat : Int)))) w := by
    simp only [execOp, ho, hx, hy, wv]; simp [go_sem]
  rw [h, w_and]; rfl
theorem exec_or (t t' : TypeId) (x y : Operand) (ho : o.op = .binOp .or t x y t') {u v : BitVec 32} (hx : a.eval x = wv u) (hy : a.eval y = wv v) : (execOp a.eval o).run P w = .ok (.value (wv (u ||| v))) w := by
  have h : (execOp a.eval o).run P w = .ok (.value (.int .u32 (bits .or .u32 (u.toNat : Int) (v.toNat : Int)))) w := by
    simp only [execOp, ho, hx, hy, wv]; simp [go_sem]
  rw [h, w_or]; rfl
theorem exec_add (t t' : TypeId) (x y : Operand) (ho : o.op = .binOp .add t x y t') {u v : BitVec 32} (hx : a.eval x = wv u) (hy : a.eval y = wv v) : (execOp a.eval o).run P w = .ok (.value (wv (u + v))) w := by
  have h : (execOp a.eval o).run P w = .ok (.value (.int .u32 (IntKind.u32.wrap ((u.toNat : Int) + (v.toNat : Int))))) w := by
    simp only [execOp, ho, hx, hy, wv]; simp [go_sem]
  rw [h, w_add]; rfl
theorem exec_shl (n : Nat) (t t' : TypeId) (x y : Operand) (ho : o.op = .binOp .shl t x y t') {u : BitVec 32} (hx : a.eval x = wv u) (hy : a.eval y = .int .u64 (n : Int)) (hn : n ≤ 32) : (execOp a.eval o).run P w = .ok (.value (wv (u <<< n))) w := by
  have h : (execOp a.eval o).run P w = .ok (.value (.int .u32 (IntKind.u32.wrap ((u.toNat : Int) * 2 ^ n)))) w := by
    simp only [execOp, ho, hx, hy, wv]; simp [go_sem]
  rw [h, w_shl _ _ hn]; rfl
theorem exec_shr (n : Nat) (t t' : TypeId) (x y : Operand) (ho : o.op = .binOp .shr t x y t') {u : BitVec 32} (hx : a.eval x = wv u) (hy : a.eval y = .int .u64 (n : Int)) (hn : n ≤ 32) : (execOp a.eval o).run P w = .ok (.value (wv (u >>> n))) w := by
  have h : (execOp a.eval o).run P w = .ok (.value (.int .u32 ((u.toNat : Int) / 2 ^ n))) w := by
    simp only [execOp, ho, hx, hy, wv]; simp [go_sem]
  rw [h, w_shr _ _ hn]; rfl
theorem exec_not (t : TypeId) (x : Operand) (ho : o.op = .unOp .xor t x) {u : BitVec 32} (hx : a.eval x = wv u) : (execOp a.eval o).run P w = .ok (.value (wv (~~~ u))) w := by
  have h : (execOp a.eval o).run P w = .ok (.value (.int .u32 (bits .xor .u32 (if IntKind.u32.signed = true then -1 else IntKind.u32.max) (u.toNat : Int)))) w := by
    simp only [execOp, ho, hx, wv]; simp [go_sem]
  rw [h, w_not]; rfl
/-- a byte as a word -/
theorem exec_conv8 (t t' : TypeId) (x : Operand) (ho : o.op = .convert t t' x) {c : Nat} (hx : a.eval x = .int .u8 (c : Int)) (hc : c < 256) (h1 : P.underlying t = some (.int .u8)) (h2 : P.underlying t' = some (.int .u32)) : (execOp a.eval o).run P w = .ok (.value (wv (BitVec.ofNat 32 c))) w := by
  have h : (execOp a.eval o).run P w = .ok (.value (.int .u32 (IntKind.u32.wrap (c : Int)))) w := by
    simp only [execOp, ho, hx]; simp [go_sem, h1, h2]
  rw [h, IntKind.wrap_u32]
  unfold wv
  rw [BitVec.toNat_ofNat, Nat.mod_eq_of_lt (show c < 2 ^ 32 by omega)]
  congr 3
  omega
theorem wv_one (x : BitVec 32) : (wv x).oneCell' = true := rfl
theorem wv_cells (x : BitVec 32) : (wv x).cells = #[wv x] := rfl
end
end Go.Proofs.YtijmkbhbpbkkoaaGreat

/- append(s, make([]T, m)...): an append of noughts, of one-cell elements. No program is named. -/
namespace Go.Proofs.YtijmkbhbpbkkoaaGreat
open Go.RowKit

section
variable {P : Program} {w : World}
theorem zeros_one {z : Value} (hz : z.cells = #[z]) (m : Nat) : Builtin.zeroCells z.cells m = (List.replicate m z).toArray := by
  apply Array.ext'
  unfold Builtin.zeroCells
  rw [hz]
  apply List.ext_getElem?
  intro i
  simp only [Array.toList_map, Array.toList_range, List.getElem?_map, List.size_toArray, List.length_singleton, Nat.mul_one, List.getElem?_replicate]
  by_cases h : i < m
  · rw [List.getElem?_range h, if_pos h]; simp [Nat.mod_one]
  · rw [List.getElem?_eq_none (by simpa using Nat.not_lt.1 h), if_neg h]; rfl
theorem run_append_zeros (base : Nat) (t u ty e : TypeId) (i : TypeInfo) (z : Value) (bytes : Nat) (ht : P.underlying t = some (.slice e)) (hu : P.underlying u = some (.int .i64)) (hi : P.info? e = some i) (hz : i.zero = some z)
    (hsize : i.size = 1) (hby : i.bytes = bytes) (hzs : z.cells = #[z]) (hz1 : z.oneCell' = true)
    (v : Value) (n : Nat) (xs : List Value) (hown : w.ownsRow base e 1 v n xs) (m : Nat) (hm : 0 < m) (h63 : n + m ≤ 140737488355328) (hbytes : (n + m) * bytes ≤ 140737488355328) (hbase : base ≤ w.heap.size) :
    ∃ v' w', (Builtin.append_ #[t, u] ty #[v, .int .i64 (m : Int)]).run P w = .ok v' w' ∧ w'.ownsRow base e 1 v' (n + m) (xs ++ List.replicate m z) ∧ w.grownBy w' v.ownBlock ∧ (v'.ownBlock = v.ownBlock ∨ v'.ownBlock = some w.heap.size) := by
  subst hby
  have hmax : n + m ≤ maxLen := by simp only [maxLen]; omega
  have hwr : IntKind.i64.wrap (m : Int) = m := by rw [IntKind.wrap_i64]; omega
  have hm0 : ¬ ((m : Int) < 0) := by omega
  have hmn : ¬ m = 0 := by omega
  have hle : m * i.bytes ≤ (n + m) * i.bytes := Nat.mul_le_mul_right _ (by omega)
  have hmb : ¬ (281474976710656 < (m : Int) * (i.bytes : Int)) := by
    have : ((m * i.bytes : Nat) : Int) ≤ 281474976710656 := by omega
    rw [Int.natCast_mul] at this; omega
  have hlen : (xs ++ List.replicate m z).length = (n + m) * 1 := by rw [List.length_append, hown.1, List.length_replicate]; omega
  have grown : ∀ (old : Nat) (row : Option Nat),
      (w.drew.alloc (.cells (xs.toArray ++ (List.replicate m z).toArray ++ Builtin.zeroCells z.cells (grownCap w (n + m) old e - (n + m))) e)).ownsRow base e 1
        (.slice (some ⟨w.heap.size, 0, none⟩) (n + m) (grownCap w (n + m) old e)) (n + m) (xs ++ List.replicate m z) ∧
      w.grownBy (w.drew.alloc (.cells (xs.toArray ++ (List.replicate m z).toArray ++ Builtin.zeroCells z.cells (grownCap w (n + m) old e - (n + m))) e)) row := by
    intro old row
    have hge := grownCap_ge w (n + m) old e
    have hcm : grownCap w (n + m) old e ≤ maxLen := grownCap_le_maxLen w (n + m) old e hmax
    refine ⟨⟨hlen, .inr ⟨w.heap.size, _, _, rfl, hbase, heap_alloc_new w.drew _, hge, hcm, ?_, ?_⟩⟩, ⟨rfl, rfl, rfl, by simp, fun k hk _ => heap_alloc_old w.drew _ hk⟩⟩
    · rw [zeros_one hzs]
      simp only [Array.size_append, List.size_toArray, List.length_replicate, hown.1]
      omega
    · simp only [Array.toList_append, List.append_assoc]
      rw [← List.append_assoc, ← hlen]
      exact List.take_left
  rcases hown.2 with ⟨rfl, rfl⟩ | ⟨g, cap, cur, rfl, hbg, hg, hnc, hcm, hcs, htake⟩
  · have hx : xs = [] := List.eq_nil_of_length_eq_zero (by simpa using hown.1)
    subst hx
    have hgr := grown 0 (Value.ownBlock (.slice none 0 0))
    simp only [Nat.zero_add, List.nil_append, Array.empty_append] at hgr ⊢
    have h48 : ¬ (281474976710656 < Builtin.nextslicecap m 0 * i.bytes) := by rw [nextslicecap_zero hm]; omega
    have h63' : ¬ (9223372036854775807 < (m : Int)) := by omega
    refine ⟨.slice (some ⟨w.heap.size, 0, none⟩) m (grownCap w m 0 e), _, ?_, hgr.1, hgr.2, .inr rfl⟩
    simp [Builtin.append_, run_underlying ht, run_underlying hu, sizeOf, typeInfo, zeroValue, hi, hz, hsize, asInt, asIntOf, hwr, hm0, hmb, hmn, h63', h48, Question.forced, run_firstCells_none, newRow, grownCap, zeros_one hzs]
  · by_cases hroom : n + m ≤ cap
    · have hadd : (⟨g, 0, none⟩ : Addr).add n = ⟨g, n, none⟩ := by unfold Addr.add; split <;> simp_all
      have hst2 : (storeCells ⟨g, n, none⟩ (List.replicate m z) 0).run P w = .ok () (w.setRow g (cur.toList.take n ++ List.replicate m z ++ cur.toList.drop (n + m)).toArray) := by
        have := run_storeCells_at (P := P) g n e (List.replicate m z) 0 cur w hg (by simp; omega) (fun u hu => by rw [(List.mem_replicate.1 hu).2]; exact hz1)
        simpa using this
      refine ⟨.slice (some ⟨g, 0, none⟩) (n + m) cap, w.setRow g (cur.toList.take n ++ List.replicate m z ++ cur.toList.drop (n + m)).toArray, ?_, ⟨hlen, .inr ⟨g, cap, _, rfl, hbg, setRow_heap w g cur _ e _ hg, hroom, hcm, ?_, ?_⟩⟩, ⟨rfl, rfl, rfl, by simp, fun k _ hk => setRow_other w g k _ (fun e => hk (by simp [Value.ownBlock, e]))⟩, .inl rfl⟩
      · simp [Builtin.append_, run_underlying ht, run_underlying hu, sizeOf, typeInfo, zeroValue, hi, hz, hsize, asInt, asIntOf, hwr, hm0, hmb, hmn, hroom, zeros_one hzs, hadd, hst2, Result.andThen]
      · simp only [List.size_toArray, List.length_append, List.length_take, List.length_drop, Array.length_toList, List.length_replicate]
        omega
      · have : cur.toList.take n = xs := by rw [← htake, Nat.mul_one]
        rw [this, ← hlen]
        exact List.take_left
    · have holds : ∀ j u, xs[j]? = some u → w.cell? ((⟨g, 0, none⟩ : Addr).add j) = some u := hown.cells (g := g) rfl
      have hfit : ¬ (281474976710656 < Builtin.nextslicecap (n + m) cap * i.bytes) := by
        have := growslice_fits (need := n + m) (old := cap) (by omega) hbytes; omega
      have h63' : ¬ (9223372036854775807 < ((n : Int) + (m : Int))) := by omega
      have hfo := run_firstCells_some (P := P) w.drew 1 n ⟨g, 0, none⟩ n cap xs hown.1 (by simpa using holds)
      have hgr := grown cap (Value.ownBlock (.slice (some ⟨g, 0, none⟩) n cap))
      refine ⟨.slice (some ⟨w.heap.size, 0, none⟩) (n + m) (grownCap w (n + m) cap e), _, ?_, hgr.1, hgr.2, .inr rfl⟩
      simp [Builtin.append_, run_underlying ht, run_underlying hu, sizeOf, typeInfo, zeroValue, hi, hz, hsize, asInt, asIntOf, hwr, hm0, hmb, hmn, hroom, h63', hfit, Question.forced, hfo, newRow, grownCap, zeros_one hzs]
variable {ops : Array Oper} {rest : List Oper} {o : Oper} {a : Act} {Q : Exit → Act → World → Prop}
theorem wpList_append_zeros (t u : TypeId) (s x : Operand) (hg : Region.wanted o (yielded ops a.tmps) = true) (ho : o.op = .call { callee := .builtin .append, args := #[s, x], argTypes := #[t, u] })
    (base : Nat) (e : TypeId) (z : Value) (bytes : Nat) (ht : P.underlying t = some (.slice e)) (hu : P.underlying u = some (.int .i64))
    (hi : (P.info? e).map (fun i => (i.zero, i.size, i.bytes)) = some (some z, 1, bytes)) (hzs : z.cells = #[z]) (hz1 : z.oneCell' = true)
    (v : Value) (n : Nat) (xs : List Value) (hs : a.eval s = v) (hown : w.ownsRow base e 1 v n xs) (m : Nat) (hx : a.eval x = .int .i64 (m : Int)) (hm : 0 < m)
    (hbytes : (n + m) * bytes ≤ 140737488355328) (h63 : n + m ≤ 140737488355328) (hbase : base ≤ w.heap.size)
    (hK : ∀ v' w', w'.ownsRow base e 1 v' (n + m) (xs ++ List.replicate m z) → w.grownBy w' v.ownBlock → (v'.ownBlock = v.ownBlock ∨ v'.ownBlock = some w.heap.size) → wpList P ops Q rest (a.put o.dst v') w') :
    wpList P ops Q (o :: rest) a w := by
  obtain ⟨i, hii, hz, hs', hby⟩ := info_parts hi
  obtain ⟨v', w', h2, h3, h4, h5⟩ := run_append_zeros (P := P) base t u o.type e i z bytes ht hu hii hz hs' hby hzs hz1 v n xs hown m hm h63 hbytes hbase
  refine wpList_val hg (v := v') (w1 := w') ?_ (hK v' w' h3 h4 h5)
  simp [execOp, ho, resolve, invoke, builtin, hs, hx, h2, Result.andThen]
end
end Go.Proofs.YtijmkbhbpbkkoaaGreat

/- A planned region's map update (int keys). No program is named. -/
namespace Go.Proofs.YtijmkbhbpbkkoaaGreat
open Go.RowKit
section
variable {P : Program} {ops : Array Oper} {Q : Exit → Act → World → Prop} {S : World → Prop} {c : Nat} {ps : List (Nat × Nat)} {k : Nat} {d : Bool} {w : World} {a : Act} {o : Oper}
variable {α : Type} {enc : α → Value} {g : Nat} {l : List (Int × α)} {kt et : TypeId}
theorem pt_mapUpdate (t : TypeId) (m x y : Operand) (hk : ops[k]? = some o) (hg : Region.wanted o (yielded ops a.tmps) = true) (ho : o.op = .mapUpdate t m x y) (kk : Int) (v : α)
    (hm : a.eval m = .map (some g)) (hx : a.eval x = .int .i64 kk) (hy : a.eval y = enc v) (h : MapE w g enc l) (ht : P.underlying t = some (.map kt et)) (hkt : P.underlying kt = some (.int .i64))
    (hK : ∀ w1, MapE w1 g enc (aset l kk v) → Mod (At g) w w1 → w1.heap.size = w.heap.size → ((d || k == c) = false → S w1) ∧ ∀ K : Act → Prop, (∀ a', wpPT P ops Q S c ps (d || k == c) a' w1 → K a') → K (a.put o.dst undef)) :
    wpPT P ops Q S c ((k, 2) :: ps) d a w := by
  obtain ⟨w1, h1, h2, h3, h4⟩ := exec_mapUpdate (P := P) (o := o) (a := a) m x y ho kk v hm hx hy h ht hkt
  obtain ⟨h5, h6⟩ := hK w1 h2 h3 h4
  exact pt_unit hk hg h1 h5 h6
end
end Go.Proofs.YtijmkbhbpbkkoaaGreat

/- append in place or into a new block; rows handed out side by side, each with marks of its own. No program is named. -/
namespace Go.Proofs.YtijmkbhbpbkkoaaGreat
open Go.RowKit

/-- what an append of something did: it wrote behind the slice, in its own row, or it made a new row -/
def AppTwo (w w' : World) (v : Value) (n m : Nat) (v' : Value) : Prop :=
  (∃ g c, v = .slice (some ⟨g, 0, none⟩) n c ∧ v' = .slice (some ⟨g, 0, none⟩) (n + m) c ∧ Mod (At g) w w') ∨ (v'.ownBlock = some w.heap.size ∧ Mod Nn w w')
section
variable {P : Program}
theorem run_append_two (w : World) (base : Nat) (t ty e : TypeId) (z : Value) (size bytes : Nat) (ht : P.underlying t = some (.slice e))
    (hi : (P.info? e).map (fun i => (i.zero, i.size, i.bytes)) = some (some z, size, bytes)) (hzs : z.cells.size = size) (hsz : 0 < size)
    (v : Value) (n : Nat) (xs : List Value) (hown : w.ownsRow base e size v n xs)
    (A : Option Addr) (m c : Nat) (news : List Value) (hr : RdC w A m size news) (hm0 : 0 < m) (h1 : ∀ u ∈ news, u.oneCell' = true)
    (hbytes : (n + m) * bytes ≤ 140737488355328) (h63 : n + m ≤ 140737488355328) (hbase : base ≤ w.heap.size) :
    ∃ v' w', (Builtin.append_ #[t, t] ty #[v, .slice A m c]).run P w = .ok v' w' ∧ w'.ownsRow base e size v' (n + m) (xs ++ news) ∧ AppTwo w w' v n m v' := by
  obtain ⟨i, hii, hz, hs, hby⟩ := info_parts hi
  clear hi
  have h63' : n + m ≤ maxLen := by simp only [maxLen]; omega
  obtain ⟨ga, off, rfl, hc⟩ := hr.2 hm0
  have hnews : ∀ j u, news[j]? = some u → w.cell? ((⟨ga, off, none⟩ : Addr).add j) = some u := by
    intro j u hu
    have hadd : (⟨ga, off, none⟩ : Addr).add j = ⟨ga, off + j, none⟩ := by unfold Addr.add; split <;> simp_all
    rw [hadd]; exact hc j u hu
  have hl := hr.1
  subst hs
  subst hby
  have hlen : (xs ++ news).length = (n + m) * i.size := by rw [List.length_append, hown.1, hl, Nat.add_mul]
  have grown : ∀ (old : Nat), old < n + m →
      (w.drew.alloc (.cells (xs.toArray ++ news.toArray ++ Builtin.zeroCells z.cells (grownCap w (n + m) old e - (n + m))) e)).ownsRow base e i.size
        (.slice (some ⟨w.heap.size, 0, none⟩) (n + m) (grownCap w (n + m) old e)) (n + m) (xs ++ news) ∧
      Mod Nn w (w.drew.alloc (.cells (xs.toArray ++ news.toArray ++ Builtin.zeroCells z.cells (grownCap w (n + m) old e - (n + m))) e)) := by
    intro old ho
    have hge := grownCap_ge w (n + m) old e
    have hcm : grownCap w (n + m) old e ≤ maxLen := grownCap_le_maxLen w (n + m) old e h63'
    refine ⟨⟨hlen, .inr ⟨w.heap.size, _, _, rfl, hbase, heap_alloc_new w.drew _, hge, hcm, ?_, ?_⟩⟩, ((Mod.refl Nn w).drew).alloc _⟩
    · simp only [Array.size_append, List.size_toArray, size_zeroCells, hzs, hown.1, hl, ← Nat.add_mul]
      congr 1
      omega
    · simp only [Array.toList_append, List.append_assoc]
      rw [← List.append_assoc, ← hlen]
      exact List.take_left
  rcases hown.2 with ⟨rfl, rfl⟩ | ⟨g, cap, cur, rfl, hbg, hg, hnc, hcm, hcs, htake⟩
  · have hx : xs = [] := List.eq_nil_of_length_eq_zero (by simpa using hown.1)
    subst hx
    have hr' := run_append_nil (P := P) w t ty e i z ht hii hz ⟨ga, off, none⟩ m c news hl hnews (by omega) (by omega) (by have hb := hbytes; simp only [Nat.zero_add] at hb; omega)
    have hgr := grown 0 (by omega)
    simp only [Nat.zero_add, List.nil_append, Array.empty_append] at hgr ⊢
    exact ⟨_, _, hr', hgr.1, .inr ⟨rfl, hgr.2⟩⟩
  · by_cases hroom : n + m ≤ cap
    · have hfit : n * i.size + news.length ≤ cur.size := by rw [hl, hcs, ← Nat.add_mul]; exact Nat.mul_le_mul_right _ hroom
      have hr' := run_append_room (P := P) w t ty e i ht hii g n cap cur hg ⟨ga, off, none⟩ m c news hl hnews h1 hroom hfit
      refine ⟨_, _, hr', ⟨hlen, .inr ⟨g, cap, _, rfl, hbg, setRow_heap w g cur _ e _ hg, hroom, hcm, ?_, ?_⟩⟩, .inl ⟨g, cap, rfl, rfl, Mod.rowAt _ _ _⟩⟩
      · simp only [List.size_toArray, List.length_append, List.length_take, List.length_drop, Array.length_toList]
        omega
      · rw [htake, ← hlen]
        exact List.take_left
    · have holds : ∀ j u, xs[j]? = some u → w.cell? ((⟨g, 0, none⟩ : Addr).add j) = some u := hown.cells (g := g) rfl
      have hr' := run_append_grow (P := P) w t ty e i z ht hii hz ⟨g, 0, none⟩ n cap xs hown.1 holds ⟨ga, off, none⟩ m c news hl hnews (by omega) (by omega) (growslice_fits (by omega) hbytes)
      have hgr := grown cap (by omega)
      exact ⟨_, _, hr', hgr.1, .inr ⟨rfl, hgr.2⟩⟩
variable {ops : Array Oper} {rest : List Oper} {o : Oper} {a : Act} {Q : Exit → Act → World → Prop} {w : World}
theorem wpList_append_two (t : TypeId) (s x : Operand) (hg : Region.wanted o (yielded ops a.tmps) = true) (ho : o.op = .call { callee := .builtin .append, args := #[s, x], argTypes := #[t, t] })
    (base : Nat) (e : TypeId) (z : Value) (size bytes : Nat) (ht : P.underlying t = some (.slice e))
    (hi : (P.info? e).map (fun i => (i.zero, i.size, i.bytes)) = some (some z, size, bytes)) (hzs : z.cells.size = size) (hsz : 0 < size)
    (v : Value) (n : Nat) (xs : List Value) (hs : a.eval s = v) (hown : w.ownsRow base e size v n xs)
    (A : Option Addr) (m c : Nat) (news : List Value) (hx : a.eval x = .slice A m c) (hr : RdC w A m size news) (hm0 : 0 < m) (h1 : ∀ u ∈ news, u.oneCell' = true)
    (hbytes : (n + m) * bytes ≤ 140737488355328) (h63 : n + m ≤ 140737488355328) (hbase : base ≤ w.heap.size)
    (hK : ∀ v' w', w'.ownsRow base e size v' (n + m) (xs ++ news) → AppTwo w w' v n m v' → wpList P ops Q rest (a.put o.dst v') w') :
    wpList P ops Q (o :: rest) a w := by
  obtain ⟨v', w', h2, h3, h4⟩ := run_append_two (P := P) w base t o.type e z size bytes ht hi hzs hsz v n xs hown A m c news hr hm0 h1 hbytes h63 hbase
  refine wpList_val hg (v := v') (w1 := w') ?_ (hK v' w' h3 h4)
  simp [execOp, ho, resolve, invoke, builtin, hs, hx, h2, Result.andThen]
end

/-! ## rows handed out -/
structure Row where
  A : Option Addr
  n : Nat
  c : Nat
def Row.v (r : Row) : Value := .slice r.A r.n r.c
/-- row k's first n marks -/
def mkR (E : Nat → Nat → List Value) (k n : Nat) : List Value := flat (E k) (List.range n)
def RowsY (w : World) (e : TypeId) (s : Nat) (L : List Row) (Y : Nat → List Value) : Prop := ∀ (j : Nat) (r : Row), L[j]? = some r → w.ownsRow 0 e s r.v r.n (Y j)
def RowsM (w : World) (e : TypeId) (s : Nat) (L : List Row) (E : Nat → Nat → List Value) : Prop := ∀ (j : Nat) (r : Row), L[j]? = some r → w.ownsRow 0 e s r.v r.n (mkR E j r.n)
def Bks (L : List Row) : Nat → Prop := fun g => ∃ (j : Nat) (r : Row), L[j]? = some r ∧ r.v.ownBlock = some g
def AptR (L : List Row) : Prop := ∀ (i j : Nat) (r q : Row) (g : Nat), L[i]? = some r → L[j]? = some q → r.v.ownBlock = some g → q.v.ownBlock = some g → i = j
/-- the rows of H, below k, hold what Z tells; each lies in its elder's row or behind block G -/
def GRows (w : World) (e : TypeId) (s : Nat) (L H : List Row) (Z : Nat → Nat → List Value) (G k : Nat) : Prop :=
  ∀ (j : Nat), j < k → ∀ (r q : Row), L[j]? = some r → H[j]? = some q → q.n = r.n + 64 ∧ w.ownsRow 0 e s q.v q.n (Z j r.n) ∧ ∀ g, q.v.ownBlock = some g → r.v.ownBlock = some g ∨ G < g
section
variable {w w' w0 : World} {e : TypeId} {s : Nat} {L H : List Row} {Y : Nat → List Value} {E : Nat → Nat → List Value} {Z : Nat → Nat → List Value} {S : Nat → Prop} {G k : Nat}
theorem mkR_len (hE : ∀ k i, (E k i).length = s) (k n : Nat) : (mkR E k n).length = n * s := by unfold mkR; rw [flat_len (hE k), List.length_range]
theorem mkR_succ (k n : Nat) : mkR E k (n + 1) = mkR E k n ++ E k n := by unfold mkR; rw [List.range_succ, flat_append, flat_one]
theorem mkR_take (hE : ∀ k i, (E k i).length = s) (k : Nat) {i n : Nat} (h : i ≤ n) : (mkR E k n).take (i * s) = mkR E k i := by
  unfold mkR; rw [flat_take (hE k), List.take_range, Nat.min_eq_left h]
theorem mkR_at (hE : ∀ k i, (E k i).length = s) (k : Nat) {i n j : Nat} (h : i < n) (hj : j < s) : (mkR E k n)[i * s + j]? = (E k i)[j]? := by
  unfold mkR; rw [flat_at (hE k) _ _ _ hj, List.getElem?_range h]; rfl
theorem own_blk_eq {base n : Nat} {v : Value} {xs : List Value} {g : Nat} (h : w.ownsRow base e s v n xs) (hg : v.ownBlock = some g) :
    ∃ (cap : Nat) (cur : Array Value), v = .slice (some ⟨g, 0, none⟩) n cap ∧ base ≤ g ∧ Blk w g e cur ∧ n ≤ cap ∧ cap ≤ maxLen ∧ cur.size = cap * s ∧ cur.toList.take (n * s) = xs := by
  rcases h.2 with ⟨rfl, _⟩ | ⟨g', cap, cur, rfl, h1, h2, h3⟩
  · cases hg
  · injection hg with hg
    have hg : g' = g := hg
    subst hg
    exact ⟨cap, cur, rfl, h1, h2, h3⟩
theorem own_blk_lt {base n : Nat} {v : Value} {xs : List Value} {g : Nat} (h : w.ownsRow base e s v n xs) (hg : v.ownBlock = some g) : g < w.heap.size := by
  obtain ⟨_, _, _, _, hb, _⟩ := own_blk_eq h hg
  exact hb.lt
/-- a row whose row was written behind it -/
theorem AppTwo.keep {base n m k' : Nat} {v v' u : Value} {xs news ys : List Value} (h : AppTwo w w' v n m v') (hs : 0 < s) (hu : w.ownsRow base e s u k' ys) (hv : w.ownsRow base e s v n xs) (hv' : w'.ownsRow base e s v' (n + m) (xs ++ news))
    (hsh : ∀ g, u.ownBlock = some g → v.ownBlock = some g → k' ≤ n ∧ ys = xs.take (k' * s)) : w'.ownsRow base e s u k' ys := by
  rcases h with ⟨g, c, rfl, rfl, hm⟩ | ⟨_, hm⟩
  · by_cases hb : u.ownBlock = some g
    · obtain ⟨hk, hy⟩ := hsh g hb rfl
      obtain ⟨cap, cur, rfl, h1, h2, h3, h4, h5, h6⟩ := own_blk_eq hu hb
      obtain ⟨cur2, _, g2, _, _, g5, _⟩ := own_parts hv
      obtain ⟨cur3, _, q2, q3, q4, q5, q6⟩ := own_parts hv'
      have hcc : cur = cur2 := by
        unfold Blk at h2 g2; rw [h2] at g2; injection g2 with g2; injection g2
      have hcap : cap = c := by
        rw [hcc] at h5; exact Nat.eq_of_mul_eq_mul_right hs (h5.symm.trans g5)
      refine ⟨hu.1, .inr ⟨g, cap, cur3, rfl, h1, q2, h3, h4, by rw [q5, hcap], ?_⟩⟩
      have hle : k' * s ≤ (n + m) * s := Nat.mul_le_mul_right _ (by omega)
      have hxl := hv.1
      have hle2 : k' * s ≤ xs.length := by rw [hxl]; exact Nat.mul_le_mul_right _ hk
      have : cur3.toList.take (k' * s) = (cur3.toList.take ((n + m) * s)).take (k' * s) := by rw [List.take_take, Nat.min_eq_left hle]
      rw [this, q6, List.take_append_of_le_length hle2, hy]
    · exact own_mod hu hm (fun k hk e => by have e : k = g := e; subst e; exact hb hk)
  · exact own_mod hu hm (fun _ _ f => f)
theorem AppTwo.mod {v v' : Value} {n m : Nat} (h : AppTwo w w' v n m v') : Mod (fun g => v.ownBlock = some g) w w' := by
  rcases h with ⟨g, c, rfl, rfl, hm⟩ | ⟨_, hm⟩
  · exact hm.mono (fun k _ e => by have e : k = g := e; subst e; rfl)
  · exact hm.nn
theorem AppTwo.blk {v v' : Value} {n m g : Nat} (h : AppTwo w w' v n m v') (hg : v'.ownBlock = some g) : v.ownBlock = some g ∨ w.heap.size ≤ g := by
  rcases h with ⟨g', c, rfl, rfl, hm⟩ | ⟨h1, hm⟩
  · exact .inl hg
  · rw [h1] at hg; injection hg with hg; exact .inr (by omega)

theorem RowsM.mod (h : RowsM w e s L E) (hm : Mod S w w') (hS : ∀ g, Bks L g → ¬ S g) : RowsM w' e s L E :=
  fun j r hr => own_mod (h j r hr) hm (fun g hg => hS g ⟨j, r, hr, hg⟩)
theorem RowsM.lt (h : RowsM w e s L E) : ∀ g, Bks L g → g < w.heap.size := fun g ⟨j, r, hr, hg⟩ => own_blk_lt (h j r hr) hg
theorem RowsY.mod (h : RowsY w e s L Y) (hm : Mod S w w') (hS : ∀ g, Bks L g → ¬ S g) : RowsY w' e s L Y :=
  fun j r hr => own_mod (h j r hr) hm (fun g hg => hS g ⟨j, r, hr, hg⟩)
theorem RowsY.lt (h : RowsY w e s L Y) : ∀ g, Bks L g → g < w.heap.size := fun g ⟨j, r, hr, hg⟩ => own_blk_lt (h j r hr) hg
theorem RowsY.set (h : RowsY w e s L Y) (ha : AptR L) {r : Row} {g : Nat} (hr : L[k]? = some r) (hg : r.v.ownBlock = some g) (hm : Mod (At g) w w') {X : List Value} (hn : w'.ownsRow 0 e s r.v r.n X) :
    RowsY w' e s L (fun j => if j = k then X else Y j) := by
  intro j q hq
  by_cases hj : j = k
  · subst hj
    rw [hr] at hq; injection hq with hq; subst hq
    simpa using hn
  · simp only [if_neg hj]
    exact own_mod (h j q hq) hm (fun k' hk' e => by have e : k' = g := e; subst e; exact hj (ha j k q r k' hq hr hk' hg))
theorem RowsY.done (h : RowsY w e s L Y) (hY : ∀ j, j < L.length → ∀ r, L[j]? = some r → Y j = mkR E j r.n) : RowsM w e s L E := fun j r hr => by
  have := h j r hr
  rwa [hY j (List.getElem?_eq_some_iff.1 hr).1 r hr] at this
theorem GRows.zero : GRows w e s L H Z G 0 := fun j hj => absurd hj (by omega)
theorem GRows.mod (h : GRows w e s L H Z G k) (hm : Mod S w w') (hS : ∀ g, (Bks L g ∨ G < g) → g < w.heap.size → ¬ S g) : GRows w' e s L H Z G k := fun j hj r q hr hq => by
  obtain ⟨h1, h2, h3⟩ := h j hj r q hr hq
  exact ⟨h1, own_mod h2 hm (fun g hg => hS g ((h3 g hg).elim (fun x => .inl ⟨j, r, hr, x⟩) .inr) (own_blk_lt h2 hg)), h3⟩
theorem GRows.setH (h : GRows w e s L H Z G k) (q : Row) : GRows w e s L (H.set k q) Z G k := fun j hj r q' hr hq => by
  rw [List.getElem?_set_ne (by omega)] at hq
  exact h j hj r q' hr hq
theorem GRows.next (h : GRows w e s L H Z G k) {r q : Row} (hr : L[k]? = some r) (hq : H[k]? = some q) (h1 : q.n = r.n + 64) (h2 : w.ownsRow 0 e s q.v q.n (Z k r.n)) (h3 : ∀ g, q.v.ownBlock = some g → r.v.ownBlock = some g ∨ G < g) : GRows w e s L H Z G (k + 1) := fun j hj r' q' hr' hq' => by
  by_cases hjk : j = k
  · subst hjk
    rw [hr] at hr'; injection hr' with hr'; subst hr'
    rw [hq] at hq'; injection hq' with hq'; subst hq'
    exact ⟨h1, h2, h3⟩
  · exact h j (by omega) r' q' hr' hq'

/-- row k is being appended to: v holds its n marks and what came behind -/
structure Grow (w0 w : World) (e : TypeId) (s : Nat) (L H : List Row) (E : Nat → Nat → List Value) (Z : Nat → Nat → List Value) (G hb k : Nat) (r : Row) (v : Value) (n : Nat) (xs : List Value) : Prop where
  rows : RowsM w e s L E
  gs : GRows w e s L H Z G k
  md : Mod (Bks L) w0 w
  hv : w.ownsRow 0 e s v n xs
  pre : r.n ≤ n ∧ mkR E k r.n = xs.take (r.n * s)
  lies : ∀ g, v.ownBlock = some g → r.v.ownBlock = some g ∨ hb ≤ g
theorem Grow.step {r : Row} {v v' : Value} {n m hb : Nat} {xs news : List Value} (h : Grow w0 w e s L H E Z G hb k r v n xs) (hs : 0 < s) (ha : AptR L) (hr : L[k]? = some r) (hL0 : ∀ g, Bks L g → g < w0.heap.size) (hG : w0.heap.size ≤ G) (hhb : G < hb)
    (hbw : hb ≤ w.heap.size) (hH : ∀ j, j < k → ∀ q, H[j]? = some q → ∀ g, q.v.ownBlock = some g → g < hb) (hk : k < L.length)
    (hv' : w'.ownsRow 0 e s v' (n + m) (xs ++ news)) (ht : AppTwo w w' v n m v') : Grow w0 w' e s L H E Z G hb k r v' (n + m) (xs ++ news) ∧ ∀ g, g ≤ G → ¬ Bks L g → g < w.heap.size → w'.heap[g]? = w.heap[g]? := by
  have hle : r.n * s ≤ n * s := Nat.mul_le_mul_right _ h.pre.1
  refine ⟨⟨fun j q hq => ?_, fun j hj r' q hr' hq => ?_, ?_, hv', ⟨by have := h.pre.1; omega, ?_⟩, fun g hg => ?_⟩, fun g hg hnb hgs => ?_⟩
  · refine ht.keep hs (h.rows j q hq) h.hv hv' (fun g hg hvg => ?_)
    rcases h.lies g hvg with h1 | h1
    · have hjk := ha j k q r g hq hr hg h1
      subst hjk
      rw [hq] at hr; injection hr with hr; subst hr
      exact h.pre
    · have := hL0 g ⟨j, q, hq, hg⟩; omega
  · obtain ⟨h1, h2, h3⟩ := h.gs j hj r' q hr' hq
    refine ⟨h1, ht.keep hs h2 h.hv hv' (fun g hg hvg => ?_), h3⟩
    exfalso
    rcases h.lies g hvg with h4 | h4
    · rcases h3 g hg with h5 | h5
      · have := ha j k r' r g hr' hr h5 h4; omega
      · have := hL0 g ⟨k, r, hr, h4⟩; omega
    · have := hH j hj q hq g hg; omega
  · refine h.md.then_ ht.mod (fun g hg0 hvg => ?_)
    rcases h.lies g hvg with h4 | h4
    · exact ⟨k, r, hr, h4⟩
    · omega
  · rw [List.take_append_of_le_length (by rw [h.hv.1]; exact hle)]; exact h.pre.2
  · rcases ht.blk hg with h1 | h1
    · exact h.lies g h1
    · exact .inr (by omega)
  · refine ht.mod.block g hgs (fun hvg => ?_)
    rcases h.lies g hvg with h4 | h4
    · exact hnb ⟨k, r, hr, h4⟩
    · omega
theorem Grow.mod {r : Row} {v : Value} {n hb : Nat} {xs : List Value} (h : Grow w0 w e s L H E Z G hb k r v n xs) (hm : Mod Nn w w') : Grow w0 w' e s L H E Z G hb k r v n xs :=
  ⟨h.rows.mod hm (fun _ _ f => f), h.gs.mod hm (fun _ _ _ f => f), h.md.nn_ hm, own_mod h.hv hm (fun _ _ f => f), h.pre, h.lies⟩
theorem Grow.start (h : RowsM w e s L E) (hs : ∀ k i, (E k i).length = s) (hg : GRows w e s L H Z G k) (hm : Mod (Bks L) w0 w) {r : Row} (hr : L[k]? = some r) (hb : Nat) : Grow w0 w e s L H E Z G hb k r r.v r.n (mkR E k r.n) :=
  ⟨h, hg, hm, h k r hr, ⟨Nat.le_refl _, by rw [mkR_take hs k (Nat.le_refl _)]⟩, fun g hg => .inl hg⟩
/-- the row is laid into the list G of rows -/
theorem Grow.put {r : Row} {A : Option Addr} {n c hb m : Nat} {xs : List Value} {t : TypeId} (h : Grow w0 w e s L H E Z G hb k r (.slice A n c) n xs) (hn : n = r.n + 64) (hx : xs = Z k r.n) (hB : Blk w G t (H.map Row.v).toArray)
    (hr : L[k]? = some r) (hm : H.length = m) (hk : k < m) (hhb : G < hb) (hG : w0.heap.size ≤ G) (hL0 : ∀ g, Bks L g → g < w0.heap.size) :
    (H.set k ⟨A, n, c⟩).length = m ∧ Blk (w.setCell ⟨G, k, none⟩ (.slice A n c)) G t ((H.set k ⟨A, n, c⟩).map Row.v).toArray ∧ RowsM (w.setCell ⟨G, k, none⟩ (.slice A n c)) e s L E ∧
      GRows (w.setCell ⟨G, k, none⟩ (.slice A n c)) e s L (H.set k ⟨A, n, c⟩) Z G (k + 1) ∧ Mod (Bks L) w0 (w.setCell ⟨G, k, none⟩ (.slice A n c)) := by
  have hm' : Mod (At G) w (w.setCell ⟨G, k, none⟩ (.slice A n c)) := Mod.cellAt _ _ _ _
  refine ⟨by rw [List.length_set]; exact hm, ?_, h.rows.mod hm' (fun g hg e => ?_), ?_, h.md.new_ hm' hG⟩
  · have := hB.set_ k (.slice A n c)
    rw [List.setIfInBounds_toArray] at this
    rw [List.map_set]
    exact this
  · have e : g = G := e
    have := hL0 g hg; omega
  · have hv := own_mod h.hv hm' (fun g hg e => by
      have e : g = G := e
      rcases h.lies g hg with h1 | h1
      · have := hL0 g ⟨k, r, hr, h1⟩; omega
      · omega)
    refine ((h.gs.mod hm' (fun g hg hgs e => ?_)).setH ⟨A, n, c⟩).next hr (List.getElem?_set_self (by omega)) hn (by rw [← hx]; exact hv) (fun g hg => ?_)
    · have e : g = G := e
      rcases hg with hg | hg
      · have := hL0 g hg; omega
      · omega
    · rcases h.lies g hg with h1 | h1
      · exact .inl h1
      · exact .inr (by omega)
theorem GRows.blk_lt (h : GRows w e s L H Z G k) (hk : k ≤ L.length) : ∀ j, j < k → ∀ q, H[j]? = some q → ∀ g, q.v.ownBlock = some g → g < w.heap.size := fun j hj q hq g hg => by
  obtain ⟨_, h2, _⟩ := h j hj L[j] q (List.getElem?_eq_getElem (by omega)) hq
  exact own_blk_lt h2 hg
theorem rows_nil (m : Nat) : (Array.replicate m (Value.slice none 0 0)) = ((List.replicate m (⟨none, 0, 0⟩ : Row)).map Row.v).toArray := by
  rw [List.map_replicate, ← List.toArray_replicate]; rfl
theorem set_take {α : Type} : ∀ (l : List α) (q : Nat) (v : α), q < l.length → (l.set q v).take (q + 1) = l.take q ++ [v]
  | [], q, v, h => by simp at h
  | x :: l, 0, v, h => by simp
  | x :: l, q + 1, v, h => by simp [set_take l q v (by simpa using h)]
theorem pad_set {α : Type} (a : List α) (n : Nat) (z v : α) (h : 0 < n) : (a ++ List.replicate n z).set a.length v = a ++ [v] ++ List.replicate (n - 1) z := by
  rw [List.set_append_right _ _ (Nat.le_refl _), Nat.sub_self]
  obtain ⟨k, rfl⟩ : ∃ k, n = k + 1 := ⟨n - 1, by omega⟩
  rw [List.replicate_succ, List.set_cons_zero, List.append_assoc]; rfl
end
end Go.Proofs.YtijmkbhbpbkkoaaGreat

/- A region that draws its order, by a plan (Kit12), with pairs: two operations that act, each of which may come up before the other. No program is named. -/
namespace Go.Proofs.YtijmkbhbpbkkoaaGreat
open Go.RowKit

section
variable {P : Program} {ops : Array Oper} {Q : Exit → Act → World → Prop} {md : Region.Mode} {S : World → Prop} {c : Nat}
/-- 0: it reads nothing; 1: it reads, and c waits for it; 2: it comes up alone; j + 3: it and j come up, in either order -/
def planU (md : Region.Mode) (ops : Array Oper) (c : Nat) : List (Nat × Nat) → Array Bool → Bool
  | [], L => (Region.ready md ops L) == []
  | (k, 0) :: ps, L => Region.free md ops L k && (Region.ready md ops L).contains k && (k != c) && planU md ops c ps (L.setIfInBounds k true)
  | (k, 1) :: ps, L => Region.free md ops L k && (Region.ready md ops L).contains k && (k != c) && waits md ops k ops.size c && planU md ops c ps (L.setIfInBounds k true)
  | (k, 2) :: ps, L => (Region.ready md ops L) == [k] && planU md ops c ps (L.setIfInBounds k true)
  | (k, j + 3) :: ps, L => ((Region.ready md ops L) == [k, j] || (Region.ready md ops L) == [j, k]) && (Region.ready md ops (L.setIfInBounds k true) == [j]) && (Region.ready md ops (L.setIfInBounds j true) == [k]) && (k != c) && (j != c) && (k != j) &&
      planU md ops c ps ((L.setIfInBounds k true).setIfInBounds j true)
def wpPU (P : Program) (ops : Array Oper) (Q : Exit → Act → World → Prop) (S : World → Prop) (c : Nat) : List (Nat × Nat) → Bool → Act → World → Prop
  | [], _, a, w => Q .normal a w
  | (k, 0) :: ps, d, a, w => ∃ o, ops[k]? = some o ∧ ∃ v, YieldsIf P ops (fun _ => True) o v a ∧ wpPU P ops Q S c ps d (a.put o.dst v) w
  | (k, 1) :: ps, d, a, w => ∃ o, ops[k]? = some o ∧ ∃ v, YieldsIf P ops S o v a ∧ wpPU P ops Q S c ps d (a.put o.dst v) w
  | (k, 2) :: ps, d, a, w => ∃ o, ops[k]? = some o ∧ (∀ y, Region.wanted o y = true) ∧ o.wp P a w (fun a' w' => ((d || k == c) = false → S w') ∧ wpPU P ops Q S c ps (d || k == c) a' w') Q
  | (k, j + 3) :: ps, d, a, w => ∃ o o', ops[k]? = some o ∧ ops[j]? = some o' ∧ (∀ y, Region.wanted o y = true) ∧ (∀ y, Region.wanted o' y = true) ∧
      o.wp P a w (fun a1 w1 => (d = false → S w1) ∧ o'.wp P a1 w1 (fun a2 w2 => (d = false → S w2) ∧ wpPU P ops Q S c ps d a2 w2) Q) Q ∧
      o'.wp P a w (fun a1 w1 => (d = false → S w1) ∧ o.wp P a1 w1 (fun a2 w2 => (d = false → S w2) ∧ wpPU P ops Q S c ps d a2 w2) Q) Q

theorem wpOp_of {k : Nat} {o : Oper} {K : Act → World → Prop} {a : Act} {w : World} (h0 : ops[k]? = some o) (hw : ∀ y, Region.wanted o y = true) (h : o.wp P a w K Q) : wpOp P ops Q k K a w := by
  unfold wpOp
  simp only [h0]
  rw [if_pos (hw _)]
  exact .inl h
theorem wpT_planU (hs : Region.noSelect ops = true) (hQ : ∀ c a d v w, Q (.panic c) (Act.put a d v) w → Q (.panic c) a w) (hcs : c < ops.size) :
    ∀ (ps : List (Nat × Nat)) (L : Array Bool) (d : Bool) (a : Act) (w : World) (n : Nat), L.size = ops.size → L.getD c false = d → Closed md ops L → (d = false → S w) → planU md ops c ps L = true → wpPU P ops Q S c ps d a w →
      n = (ps.map (fun e => if 3 ≤ e.2 then 2 else 1)).sum → wpT P md ops Q S c n L a w
  | [], L, d, a, w, n, _, _, _, _, hB, h, hn => by
    subst hn
    simp only [planU, beq_iff_eq] at hB
    exact ⟨hB, h⟩
  | (k, 0) :: ps, L, d, a, w, n, hsz, hd, hC, hS, hB, h, hn => by
    obtain ⟨m, hm⟩ : ∃ m, m = (ps.map (fun e => if 3 ≤ e.2 then 2 else 1)).sum := ⟨_, rfl⟩
    have hn' : n = m + 1 := by rw [hn, hm]; simp; omega
    subst hn'
    simp only [planU, Bool.and_eq_true, bne_iff_ne, ne_eq] at hB
    obtain ⟨⟨⟨h1, h2⟩, h3⟩, h4⟩ := hB
    obtain ⟨o, h0, v, hy, hK⟩ := h
    have hr : k ∈ Region.ready md ops L := by simpa using h2
    refine wpT_first h0 (Region.noSelect_spec hs) (fun c a w => hQ c a o.dst v w) h3 (fun _ _ _ _ _ => trivial) _ L a w (Region.free_spec h0 h1) hr hC hy (fun h => hS (hd ▸ h)) ?_
    exact wpT_planU hs hQ hcs ps _ d _ _ m (by rw [Array.size_setIfInBounds]; exact hsz) (by rw [getD_set_ne false h3]; exact hd) (hC.set hr) hS h4 hK hm
  | (k, 1) :: ps, L, d, a, w, n, hsz, hd, hC, hS, hB, h, hn => by
    obtain ⟨m, hm⟩ : ∃ m, m = (ps.map (fun e => if 3 ≤ e.2 then 2 else 1)).sum := ⟨_, rfl⟩
    have hn' : n = m + 1 := by rw [hn, hm]; simp; omega
    subst hn'
    simp only [planU, Bool.and_eq_true, bne_iff_ne, ne_eq] at hB
    obtain ⟨⟨⟨⟨h1, h2⟩, h3⟩, hw⟩, h4⟩ := hB
    obtain ⟨o, h0, v, hy, hK⟩ := h
    have hr : k ∈ Region.ready md ops L := by simpa using h2
    refine wpT_first h0 (Region.noSelect_spec hs) (fun c a w => hQ c a o.dst v w) h3 (fun L' w' hC' hi' hS' => hS' ?_) _ L a w (Region.free_spec h0 h1) hr hC hy (fun h => hS (hd ▸ h)) ?_
    · cases hl : L'.getD c false with
      | false => rfl
      | true =>
        have := waits_spec hC' _ _ hw hl
        rw [getD_two hi'] at this
        cases this
    · exact wpT_planU hs hQ hcs ps _ d _ _ m (by rw [Array.size_setIfInBounds]; exact hsz) (by rw [getD_set_ne false h3]; exact hd) (hC.set hr) hS h4 hK hm
  | (k, 2) :: ps, L, d, a, w, n, hsz, hd, hC, hS, hB, h, hn => by
    obtain ⟨m, hm⟩ : ∃ m, m = (ps.map (fun e => if 3 ≤ e.2 then 2 else 1)).sum := ⟨_, rfl⟩
    have hn' : n = m + 1 := by rw [hn, hm]; simp; omega
    subst hn'
    simp only [planU, Bool.and_eq_true, beq_iff_eq] at hB
    obtain ⟨hr, hB⟩ := hB
    have hk : k ∈ Region.ready md ops L := by rw [hr]; simp
    have hd' : (L.setIfInBounds k true).getD c false = (d || k == c) := by
      by_cases hkc : k = c
      · subst hkc
        simp [hsz, hcs]
      · rw [getD_set_ne false hkc, hd]; simp [hkc]
    refine ⟨fun h0 => (by rw [hr] at h0; cases h0), fun i hi => ?_⟩
    rw [hr, List.mem_singleton] at hi
    subst hi
    obtain ⟨o, h0, hw, h⟩ := h
    have hsz' : (L.setIfInBounds i true).size = ops.size := by rw [Array.size_setIfInBounds]; exact hsz
    exact wpOp_of h0 hw (Oper.wp_mono (fun a' w' h' => ⟨fun h => h'.1 (hd' ▸ h), wpT_planU hs hQ hcs ps _ _ a' w' m hsz' hd' (hC.set hk) h'.1 hB h'.2 hm⟩) h)
  | (k, j + 3) :: ps, L, d, a, w, n, hsz, hd, hC, hS, hB, h, hn => by
    obtain ⟨m, hm⟩ : ∃ m, m = (ps.map (fun e => if 3 ≤ e.2 then 2 else 1)).sum := ⟨_, rfl⟩
    have hn' : n = m + 2 := by rw [hn, hm]; simp; omega
    subst hn'
    simp only [planU, Bool.and_eq_true, Bool.or_eq_true, beq_iff_eq, bne_iff_ne, ne_eq] at hB
    obtain ⟨⟨⟨⟨⟨⟨hr, hrk⟩, hrj⟩, hkc⟩, hjc⟩, hkj⟩, hB⟩ := hB
    have hk : k ∈ Region.ready md ops L := by rcases hr with hr | hr <;> (rw [hr]; simp)
    have hj : j ∈ Region.ready md ops L := by rcases hr with hr | hr <;> (rw [hr]; simp)
    obtain ⟨o, o', h0, h0', hw, hw', h1, h2⟩ := h
    have hdk : (L.setIfInBounds k true).getD c false = d := by rw [getD_set_ne false hkc]; exact hd
    have hdj : (L.setIfInBounds j true).getD c false = d := by rw [getD_set_ne false hjc]; exact hd
    have hdb : ((L.setIfInBounds k true).setIfInBounds j true).getD c false = d := by rw [getD_set_ne false hjc]; exact hdk
    have hcomm : (L.setIfInBounds j true).setIfInBounds k true = (L.setIfInBounds k true).setIfInBounds j true := (Array.setIfInBounds_comm _ _ hkj).symm
    have hszb : ((L.setIfInBounds k true).setIfInBounds j true).size = ops.size := by rw [Array.size_setIfInBounds, Array.size_setIfInBounds]; exact hsz
    have hkj' : j ∈ Region.ready md ops (L.setIfInBounds k true) := by rw [hrk]; simp
    have hjk' : k ∈ Region.ready md ops (L.setIfInBounds j true) := by rw [hrj]; simp
    have hCb : Closed md ops ((L.setIfInBounds k true).setIfInBounds j true) := (hC.set hk).set hkj'
    refine ⟨fun h0 => (by rcases hr with hr | hr <;> (rw [hr] at h0; cases h0)), fun i hi => ?_⟩
    have hi : i = k ∨ i = j := by rcases hr with hr | hr <;> (rw [hr] at hi; simp at hi; omega)
    rcases hi with rfl | rfl
    · refine wpOp_of h0 hw (Oper.wp_mono (fun a1 w1 h' => ⟨fun h => h'.1 (hdk ▸ h), fun h0 => (by rw [hrk] at h0; cases h0), fun i2 hi2 => ?_⟩) h1)
      rw [hrk, List.mem_singleton] at hi2
      subst hi2
      exact wpOp_of h0' hw' (Oper.wp_mono (fun a2 w2 h'' => ⟨fun h => h''.1 (hdb ▸ h), wpT_planU hs hQ hcs ps _ d a2 w2 m hszb hdb hCb h''.1 hB h''.2 hm⟩) h'.2)
    · refine wpOp_of h0' hw' (Oper.wp_mono (fun a1 w1 h' => ⟨fun h => h'.1 (hdj ▸ h), fun h0 => (by rw [hrj] at h0; cases h0), fun i2 hi2 => ?_⟩) h2)
      rw [hrj, List.mem_singleton] at hi2
      subst hi2
      refine wpOp_of h0 hw (Oper.wp_mono (fun a2 w2 h'' => ?_) h'.2)
      rw [hcomm]
      exact ⟨fun h => h''.1 (hdb ▸ h), wpT_planU hs hQ hcs ps _ d a2 w2 m hszb hdb hCb h''.1 hB h''.2 hm⟩

variable {w : World} {a : Act} {o : Oper} {ps : List (Nat × Nat)} {k : Nat} {d : Bool}
theorem wp_region_planU {id : Nat} {l : List Oper} (S : World → Prop) (c : Nat) (ps : List (Nat × Nat)) (hm : P.follows .mixedOrders = true)
    (hB : (Region.noSelect l.toArray && planU .any l.toArray c ps (Array.replicate l.length false) && ((ps.map (fun e => if 3 ≤ e.2 then 2 else 1)).sum == l.length) && decide (c < l.length)) = true)
    (hS : S w.drew) (h : wpPU P l.toArray (NoP Q) S c ps false a w.drew) : (Code.region id l.toArray true).wp P Q a w := by
  simp only [Bool.and_eq_true, beq_iff_eq, decide_eq_true_eq] at hB
  obtain ⟨⟨⟨h1, h2⟩, h3⟩, h4⟩ := hB
  refine Code.wp_mono NoP.imp (wp_region_any hm (wpAny_of_T (S := S) (c := c) _ _ _ _ ?_))
  have := wpT_planU (P := P) (md := .any) (Q := NoP Q) (S := S) (c := c) h1 (fun _ _ _ _ _ h => h) (by simpa using h4) ps (Array.replicate l.length false) false a w.drew l.length (by simp) (by rw [Array.getD_eq_getD_getElem?, Array.getElem?_replicate]; split <;> rfl) (Closed.start _) (fun _ => hS) h2 h h3.symm
  simpa using this
theorem pu_nil (h : Q .normal a w) : wpPU P ops (NoP Q) S c [] d a w := h
theorem pu_pure (ho : ops[k]? = some o) (hg : Region.wanted o (yielded ops a.tmps) = true) (h : ∀ K : Act → Prop, (∀ a', wpPU P ops Q S c ps d a' w → K a') → ∃ v, (∀ w', (execOp a.eval o).run P w' = .ok (.value v) w') ∧ K (a.put o.dst v)) : wpPU P ops Q S c ((k, 0) :: ps) d a w := by
  obtain ⟨v, h1, h2⟩ := h _ (fun _ h => h)
  exact ⟨o, ho, v, .inl ⟨hg, fun w' _ => h1 w'⟩, h2⟩
theorem pu_is (v : Value) (ho : ops[k]? = some o) (hg : Region.wanted o (yielded ops a.tmps) = true) (hrun : ∀ w', (execOp a.eval o).run P w' = .ok (.value v) w')
    (h : ∀ K : Act → Prop, (∀ a', wpPU P ops Q S c ps d a' w → K a') → K (a.put o.dst v)) : wpPU P ops Q S c ((k, 0) :: ps) d a w :=
  ⟨o, ho, v, .inl ⟨hg, fun w' _ => hrun w'⟩, h (fun a' => wpPU P ops Q S c ps d a' w) (fun _ h => h)⟩
theorem pu_take (v : Value) (ho : ops[k]? = some o) (hg : Region.wanted o (yielded ops a.tmps) = true) (hrun : ∀ w', S w' → (execOp a.eval o).run P w' = .ok (.value v) w')
    (h : ∀ K : Act → Prop, (∀ a', wpPU P ops Q S c ps d a' w → K a') → K (a.put o.dst v)) : wpPU P ops Q S c ((k, 1) :: ps) d a w :=
  ⟨o, ho, v, .inl ⟨hg, hrun⟩, h (fun a' => wpPU P ops Q S c ps d a' w) (fun _ h => h)⟩
theorem pu_val {v : Value} {w1 : World} (ho : ops[k]? = some o) (hg : ∀ y, Region.wanted o y = true) (hrun : (execOp a.eval o).run P w = .ok (.value v) w1) (hS : (d || k == c) = false → S w1)
    (h : ∀ K : Act → Prop, (∀ a', wpPU P ops Q S c ps (d || k == c) a' w1 → K a') → K (a.put o.dst v)) : wpPU P ops Q S c ((k, 2) :: ps) d a w :=
  ⟨o, ho, hg, by unfold Oper.wp; rw [hrun]; exact ⟨hS, h (fun a' => wpPU P ops Q S c ps (d || k == c) a' w1) (fun _ h => h)⟩⟩
theorem pu_unit {w1 : World} (ho : ops[k]? = some o) (hg : ∀ y, Region.wanted o y = true) (hrun : (execOp a.eval o).run P w = .ok .skip w1) (hS : (d || k == c) = false → S w1)
    (h : ∀ K : Act → Prop, (∀ a', wpPU P ops Q S c ps (d || k == c) a' w1 → K a') → K (a.put o.dst undef)) : wpPU P ops Q S c ((k, 2) :: ps) d a w :=
  ⟨o, ho, hg, by unfold Oper.wp; rw [hrun]; exact ⟨hS, h (fun a' => wpPU P ops Q S c ps (d || k == c) a' w1) (fun _ h => h)⟩⟩
/-- a pair: an operation that makes memory and a call of a function of the program, in either order -/
theorem pu_pair {j : Nat} {o o' : Oper} (ho : ops[k]? = some o) (ho' : ops[j]? = some o') (hg : ∀ y, Region.wanted o y = true) (hg' : ∀ y, Region.wanted o' y = true)
    (h : ∀ K : Act → World → Prop, (∀ a' w', wpPU P ops Q S c ps d a' w' → K a' w') →
      ∃ v w1 f args, ((execOp a.eval o).run P w = .ok (.value v) w1 ∧ (execOp (a.put o.dst v).eval o').run P w1 = .ok (.enter f args) w1 ∧ (execOp a.eval o').run P w = .ok (.enter f args) w) ∧ (d = false → S w1) ∧
        (Calls P f args w1 fun e w' => ∃ u, e = .returned u ∧ (d = false → S w') ∧ K ((a.put o.dst v).put o'.dst u) w') ∧
        (Calls P f args w fun e w' => ∃ u, e = .returned u ∧ (d = false → S w') ∧ ∃ v2 w2, (execOp (a.put o'.dst u).eval o).run P w' = .ok (.value v2) w2 ∧ (d = false → S w2) ∧ K ((a.put o'.dst u).put o.dst v2) w2)) :
    wpPU P ops Q S c ((k, j + 3) :: ps) d a w := by
  obtain ⟨v, w1, f, args, ⟨hrun, hcall1, hcall2⟩, hS1, hc1, hc2⟩ := h (fun a' w' => wpPU P ops Q S c ps d a' w') (fun _ _ h => h)
  refine ⟨o, o', ho, ho', hg, hg', ?_, ?_⟩
  · unfold Oper.wp
    rw [hrun]
    refine ⟨hS1, ?_⟩
    rw [hcall1]
    exact hc1.mono fun e w' ⟨u, he, h1, h2⟩ => by subst he; exact ⟨h1, h2⟩
  · unfold Oper.wp
    rw [hcall2]
    refine hc2.mono fun e w' ⟨u, he, h1, v2, w2, h2, h3, h4⟩ => ?_
    subst he
    refine ⟨h1, ?_⟩
    rw [h2]
    exact ⟨h3, h4⟩
theorem pu_append (t : TypeId) (s x : Operand) (hk : ops[k]? = some o) (hg : ∀ y, Region.wanted o y = true) (ho : o.op = .call { callee := .builtin .append, args := #[s, x], argTypes := #[t, t] })
    (base : Nat) (e : TypeId) (z : Value) (size bytes : Nat) (ht : P.underlying t = some (.slice e))
    (hi : (P.info? e).map (fun i => (i.zero, i.size, i.bytes)) = some (some z, size, bytes)) (hzs : z.cells.size = size) (hsz : 0 < size)
    (v : Value) (n : Nat) (xs : List Value) (hs : a.eval s = v) (hown : w.ownsRow base e size v n xs)
    (A : Option Addr) (m cc : Nat) (news : List Value) (hx : a.eval x = .slice A m cc) (hr : RdC w A m size news) (h1 : ∀ u ∈ news, u.oneCell' = true)
    (hbytes : (n + m) * bytes ≤ 140737488355328) (h63 : n + m ≤ 140737488355328) (hbase : base ≤ w.heap.size)
    (hK : ∀ v' w', w'.ownsRow base e size v' (n + m) (xs ++ news) → w.grownBy w' v.ownBlock → (v'.ownBlock = v.ownBlock ∨ v'.ownBlock = some w.heap.size) →
      ((d || k == c) = false → S w') ∧ ∀ K : Act → Prop, (∀ a', wpPU P ops Q S c ps (d || k == c) a' w' → K a') → K (a.put o.dst v')) : wpPU P ops Q S c ((k, 2) :: ps) d a w := by
  obtain ⟨v', w', hrun, h2, h3, h4⟩ := exec_append (P := P) t s x ho base e z size bytes ht hi hzs hsz hs hown hx hr h1 hbytes h63 hbase
  obtain ⟨h5, h6⟩ := hK v' w' h2 h3 h4
  exact pu_val hk hg hrun h5 h6
end
end Go.Proofs.YtijmkbhbpbkkoaaGreat
